/-
  CopyRun; SameRun and same of equal ones.
-/
import Derived.Test.YtjnmlgfkiebkgaaLrh
import Derived.Test.YtjnmlgfkiebkgaaLsm
import Derived.Test.YtjnmlgfkiebkgaaLss
namespace Go.Proofs.Ytjnmlgfkiebkgaa
open Go.RowKit
set_option linter.unusedVariables false
set_option linter.unusedSimpArgs false

/-- a shift -/
structure Sf where
  mv : Int
  th : Int
  sl : Int
  fr : Int
  tt : Int
abbrev sfL (s : Sf) : List Value := [.int .i64 s.mv, .int .i64 s.th, .int .i64 s.sl, .int .i64 s.fr, .int .i64 s.tt]
def sfVals (l : List Sf) : List Value := l.flatMap sfL
theorem sfVals_get {l : List Sf} {t : Nat} {c : Sf} (hh : l[t]? = some c) (j : Nat) (hj : j < 5) : (sfVals l)[t * 5 + j]? = (sfL c)[j]? := flat_getL (enc := fun x => sfL x) (k := 5) (fun _ => rfl) hh j hj
theorem acVals_get' {l : List Ac} {t : Nat} {c : Ac} (hh : l[t]? = some c) (j : Nat) (hj : j < 7) : (acVals l)[t * 7 + j]? = (acL c)[j]? := flat_getL (enc := fun x => acL x) (k := 7) (fun _ => rfl) hh j hj
theorem sfL_one (s : Sf) : ∀ v ∈ sfL s, v.oneCell' = true := by
  intro v hv
  simp at hv
  rcases hv with rfl | rfl | rfl | rfl | rfl <;> rfl
theorem acL_one' (s : Ac) : ∀ v ∈ acL s, v.oneCell' = true := by
  intro v hv
  simp at hv
  rcases hv with rfl | rfl | rfl | rfl | rfl | rfl | rfl <;> rfl
theorem flat_one {α : Type} {enc : α → List Value} (h : ∀ x, ∀ v ∈ enc x, v.oneCell' = true) (l : List α) : ∀ v ∈ l.flatMap enc, v.oneCell' = true := by
  intro v hv
  obtain ⟨x, _, hx⟩ := List.mem_flatMap.1 hv
  exact h x v hx
theorem u64s_one' (l : List Int) : ∀ v ∈ u64s l, v.oneCell' = true := by
  intro v hv
  unfold u64s at hv
  obtain ⟨x, _, rfl⟩ := List.mem_map.1 hv
  rfl
theorem info_csh : (Try.prog.info? 94).map (fun i => (i.zero, i.size, i.bytes)) = some (some (.agg #[.int .i64 0, .int .i64 0, .int .i64 0, .int .i64 0, .int .i64 0]), 5, 40) := by kernel_rfl

set_option maxRecDepth 100000 in
set_option maxHeartbeats 1000000 in
theorem cal_same (l : List Cal) (A B : Option Addr) (c d : Nat) (w : World) (hA : Sl w w.heap.size 9 A l.length (calVals l)) (hB : Sl w w.heap.size 9 B l.length (calVals l)) (hn : l.length ≤ 140737488355328) :
    Calls Try.prog 39 #[.slice A l.length c, .slice B l.length d] w (BoolR true w) := by
  have HA := Lib.hid hA
  have HB := Lib.hid hB
  have e9 : ((l.length : Int) != l.length) = false := by simp
  clear hA hB
  go_enter Try.func39, Try.ntmps39
  go_wp2_with fail
  go_loopg [5] l.length (fun gk i wr => ∃ (j : Nat), j + gk = l.length ∧ i = .int .i64 j ∧ Hid (Below w.heap.size w wr))
  case atStart => exact ⟨0, by omega, rfl, Below.refl _ _⟩
  case round =>
    obtain ⟨j, hj, rfl, hBr⟩ := hrel
    by_cases hlt : j < l.length
    · obtain ⟨x, hx⟩ := at_lt hlt
      have e1 : (j : Int) < l.length := by omega
      have e0 : (0 : Int) ≤ j := by omega
      have hzr := hBr.out.size
      obtain ⟨ba, fa, rfl, hba, hca⟩ := (HA.out.below hBr.out).2 (by omega)
      obtain ⟨bb, fb, rfl, hbb, hcb⟩ := (HB.out.below hBr.out).2 (by omega)
      have v0 : wr.cell? ⟨ba, fa + j * 9, none⟩ = some (.int .i64 x.th) := by have := hca (j * 9 + 0) _ (calVals_get hx 0 (by omega)); simpa using this
      have v1 : wr.cell? ⟨ba, fa + j * 9 + 1, none⟩ = some (.int .i64 x.op) := by have := hca (j * 9 + 1) _ (calVals_get hx 1 (by omega)); rw [← Nat.add_assoc] at this; exact this
      have v2 : wr.cell? ⟨ba, fa + j * 9 + 2, none⟩ = some (.int .i64 x.arg) := by have := hca (j * 9 + 2) _ (calVals_get hx 2 (by omega)); rw [← Nat.add_assoc] at this; exact this
      have v3 : wr.cell? ⟨ba, fa + j * 9 + 3, none⟩ = some (.int .i64 x.dat) := by have := hca (j * 9 + 3) _ (calVals_get hx 3 (by omega)); rw [← Nat.add_assoc] at this; exact this
      have v4 : wr.cell? ⟨ba, fa + j * 9 + 4, none⟩ = some (.int .i64 x.beg) := by have := hca (j * 9 + 4) _ (calVals_get hx 4 (by omega)); rw [← Nat.add_assoc] at this; exact this
      have v5 : wr.cell? ⟨ba, fa + j * 9 + 5, none⟩ = some (.int .i64 x.fin) := by have := hca (j * 9 + 5) _ (calVals_get hx 5 (by omega)); rw [← Nat.add_assoc] at this; exact this
      have v6 : wr.cell? ⟨ba, fa + j * 9 + 6, none⟩ = some (.int .i64 x.pt) := by have := hca (j * 9 + 6) _ (calVals_get hx 6 (by omega)); rw [← Nat.add_assoc] at this; exact this
      have v7 : wr.cell? ⟨ba, fa + j * 9 + 7, none⟩ = some (.int .i64 x.ak) := by have := hca (j * 9 + 7) _ (calVals_get hx 7 (by omega)); rw [← Nat.add_assoc] at this; exact this
      have v8 : wr.cell? ⟨ba, fa + j * 9 + 8, none⟩ = some (.int .i64 x.av) := by have := hca (j * 9 + 8) _ (calVals_get hx 8 (by omega)); rw [← Nat.add_assoc] at this; exact this

      have u0 : wr.cell? ⟨bb, fb + j * 9, none⟩ = some (.int .i64 x.th) := by have := hcb (j * 9 + 0) _ (calVals_get hx 0 (by omega)); simpa using this
      have u1 : wr.cell? ⟨bb, fb + j * 9 + 1, none⟩ = some (.int .i64 x.op) := by have := hcb (j * 9 + 1) _ (calVals_get hx 1 (by omega)); rw [← Nat.add_assoc] at this; exact this
      have u2 : wr.cell? ⟨bb, fb + j * 9 + 2, none⟩ = some (.int .i64 x.arg) := by have := hcb (j * 9 + 2) _ (calVals_get hx 2 (by omega)); rw [← Nat.add_assoc] at this; exact this
      have u3 : wr.cell? ⟨bb, fb + j * 9 + 3, none⟩ = some (.int .i64 x.dat) := by have := hcb (j * 9 + 3) _ (calVals_get hx 3 (by omega)); rw [← Nat.add_assoc] at this; exact this
      have u4 : wr.cell? ⟨bb, fb + j * 9 + 4, none⟩ = some (.int .i64 x.beg) := by have := hcb (j * 9 + 4) _ (calVals_get hx 4 (by omega)); rw [← Nat.add_assoc] at this; exact this
      have u5 : wr.cell? ⟨bb, fb + j * 9 + 5, none⟩ = some (.int .i64 x.fin) := by have := hcb (j * 9 + 5) _ (calVals_get hx 5 (by omega)); rw [← Nat.add_assoc] at this; exact this
      have u6 : wr.cell? ⟨bb, fb + j * 9 + 6, none⟩ = some (.int .i64 x.pt) := by have := hcb (j * 9 + 6) _ (calVals_get hx 6 (by omega)); rw [← Nat.add_assoc] at this; exact this
      have u7 : wr.cell? ⟨bb, fb + j * 9 + 7, none⟩ = some (.int .i64 x.ak) := by have := hcb (j * 9 + 7) _ (calVals_get hx 7 (by omega)); rw [← Nat.add_assoc] at this; exact this
      have u8 : wr.cell? ⟨bb, fb + j * 9 + 8, none⟩ = some (.int .i64 x.av) := by have := hcb (j * 9 + 8) _ (calVals_get hx 8 (by omega)); rw [← Nat.add_assoc] at this; exact this

      have hla : ba < wr.heap.size := by omega
      have hlb : bb < wr.heap.size := by omega
      clear hca hcb hx
      go_upto_region 6 with fail
      go_quiet (fail)
      go_wp2_with fail
      go_roundg (gk - 1)
      case measure => omega
      case rel => exact ⟨j + 1, by omega, by go_num, below_drewN hBr.out nq⟩
    · obtain rfl : j = l.length := by omega
      go_wp2_with fail
      go_ret
      exact ⟨rfl, hBr.out⟩

set_option maxRecDepth 100000 in
set_option maxHeartbeats 1000000 in
theorem acc_same (l : List Ac) (A B : Option Addr) (c d : Nat) (w : World) (hA : Sl w w.heap.size 7 A l.length (acVals l)) (hB : Sl w w.heap.size 7 B l.length (acVals l)) (hn : l.length ≤ 140737488355328) :
    Calls Try.prog 40 #[.slice A l.length c, .slice B l.length d] w (BoolR true w) := by
  have HA := Lib.hid hA
  have HB := Lib.hid hB
  have e9 : ((l.length : Int) != l.length) = false := by simp
  clear hA hB
  go_enter Try.func40, Try.ntmps40
  go_wp2_with fail
  go_loopg [5] l.length (fun gk i wr => ∃ (j : Nat), j + gk = l.length ∧ i = .int .i64 j ∧ Hid (Below w.heap.size w wr))
  case atStart => exact ⟨0, by omega, rfl, Below.refl _ _⟩
  case round =>
    obtain ⟨j, hj, rfl, hBr⟩ := hrel
    by_cases hlt : j < l.length
    · obtain ⟨x, hx⟩ := at_lt hlt
      have e1 : (j : Int) < l.length := by omega
      have e0 : (0 : Int) ≤ j := by omega
      have hzr := hBr.out.size
      obtain ⟨ba, fa, rfl, hba, hca⟩ := (HA.out.below hBr.out).2 (by omega)
      obtain ⟨bb, fb, rfl, hbb, hcb⟩ := (HB.out.below hBr.out).2 (by omega)
      have v0 : wr.cell? ⟨ba, fa + j * 7, none⟩ = some (.int .i64 x.mv) := by have := hca (j * 7 + 0) _ (acVals_get' hx 0 (by omega)); simpa using this
      have v1 : wr.cell? ⟨ba, fa + j * 7 + 1, none⟩ = some (.int .i64 x.th) := by have := hca (j * 7 + 1) _ (acVals_get' hx 1 (by omega)); rw [← Nat.add_assoc] at this; exact this
      have v2 : wr.cell? ⟨ba, fa + j * 7 + 2, none⟩ = some (.int .i64 x.kd) := by have := hca (j * 7 + 2) _ (acVals_get' hx 2 (by omega)); rw [← Nat.add_assoc] at this; exact this
      have v3 : wr.cell? ⟨ba, fa + j * 7 + 3, none⟩ = some (.int .i64 x.ad) := by have := hca (j * 7 + 3) _ (acVals_get' hx 3 (by omega)); rw [← Nat.add_assoc] at this; exact this
      have v4 : wr.cell? ⟨ba, fa + j * 7 + 4, none⟩ = some (.int .u64 x.old) := by have := hca (j * 7 + 4) _ (acVals_get' hx 4 (by omega)); rw [← Nat.add_assoc] at this; exact this
      have v5 : wr.cell? ⟨ba, fa + j * 7 + 5, none⟩ = some (.int .u64 x.new) := by have := hca (j * 7 + 5) _ (acVals_get' hx 5 (by omega)); rw [← Nat.add_assoc] at this; exact this
      have v6 : wr.cell? ⟨ba, fa + j * 7 + 6, none⟩ = some (.int .u64 x.saw) := by have := hca (j * 7 + 6) _ (acVals_get' hx 6 (by omega)); rw [← Nat.add_assoc] at this; exact this

      have u0 : wr.cell? ⟨bb, fb + j * 7, none⟩ = some (.int .i64 x.mv) := by have := hcb (j * 7 + 0) _ (acVals_get' hx 0 (by omega)); simpa using this
      have u1 : wr.cell? ⟨bb, fb + j * 7 + 1, none⟩ = some (.int .i64 x.th) := by have := hcb (j * 7 + 1) _ (acVals_get' hx 1 (by omega)); rw [← Nat.add_assoc] at this; exact this
      have u2 : wr.cell? ⟨bb, fb + j * 7 + 2, none⟩ = some (.int .i64 x.kd) := by have := hcb (j * 7 + 2) _ (acVals_get' hx 2 (by omega)); rw [← Nat.add_assoc] at this; exact this
      have u3 : wr.cell? ⟨bb, fb + j * 7 + 3, none⟩ = some (.int .i64 x.ad) := by have := hcb (j * 7 + 3) _ (acVals_get' hx 3 (by omega)); rw [← Nat.add_assoc] at this; exact this
      have u4 : wr.cell? ⟨bb, fb + j * 7 + 4, none⟩ = some (.int .u64 x.old) := by have := hcb (j * 7 + 4) _ (acVals_get' hx 4 (by omega)); rw [← Nat.add_assoc] at this; exact this
      have u5 : wr.cell? ⟨bb, fb + j * 7 + 5, none⟩ = some (.int .u64 x.new) := by have := hcb (j * 7 + 5) _ (acVals_get' hx 5 (by omega)); rw [← Nat.add_assoc] at this; exact this
      have u6 : wr.cell? ⟨bb, fb + j * 7 + 6, none⟩ = some (.int .u64 x.saw) := by have := hcb (j * 7 + 6) _ (acVals_get' hx 6 (by omega)); rw [← Nat.add_assoc] at this; exact this

      have hla : ba < wr.heap.size := by omega
      have hlb : bb < wr.heap.size := by omega
      clear hca hcb hx
      go_upto_region 6 with fail
      go_quiet (fail)
      go_wp2_with fail
      go_roundg (gk - 1)
      case measure => omega
      case rel => exact ⟨j + 1, by omega, by go_num, below_drewN hBr.out nq⟩
    · obtain rfl : j = l.length := by omega
      go_wp2_with fail
      go_ret
      exact ⟨rfl, hBr.out⟩

set_option maxRecDepth 100000 in
set_option maxHeartbeats 1000000 in
theorem shf_same (l : List Sf) (A B : Option Addr) (c d : Nat) (w : World) (hA : Sl w w.heap.size 5 A l.length (sfVals l)) (hB : Sl w w.heap.size 5 B l.length (sfVals l)) (hn : l.length ≤ 140737488355328) :
    Calls Try.prog 41 #[.slice A l.length c, .slice B l.length d] w (BoolR true w) := by
  have HA := Lib.hid hA
  have HB := Lib.hid hB
  have e9 : ((l.length : Int) != l.length) = false := by simp
  clear hA hB
  go_enter Try.func41, Try.ntmps41
  go_wp2_with fail
  go_loopg [5] l.length (fun gk i wr => ∃ (j : Nat), j + gk = l.length ∧ i = .int .i64 j ∧ Hid (Below w.heap.size w wr))
  case atStart => exact ⟨0, by omega, rfl, Below.refl _ _⟩
  case round =>
    obtain ⟨j, hj, rfl, hBr⟩ := hrel
    by_cases hlt : j < l.length
    · obtain ⟨x, hx⟩ := at_lt hlt
      have e1 : (j : Int) < l.length := by omega
      have e0 : (0 : Int) ≤ j := by omega
      have hzr := hBr.out.size
      obtain ⟨ba, fa, rfl, hba, hca⟩ := (HA.out.below hBr.out).2 (by omega)
      obtain ⟨bb, fb, rfl, hbb, hcb⟩ := (HB.out.below hBr.out).2 (by omega)
      have v0 : wr.cell? ⟨ba, fa + j * 5, none⟩ = some (.int .i64 x.mv) := by have := hca (j * 5 + 0) _ (sfVals_get hx 0 (by omega)); simpa using this
      have v1 : wr.cell? ⟨ba, fa + j * 5 + 1, none⟩ = some (.int .i64 x.th) := by have := hca (j * 5 + 1) _ (sfVals_get hx 1 (by omega)); rw [← Nat.add_assoc] at this; exact this
      have v2 : wr.cell? ⟨ba, fa + j * 5 + 2, none⟩ = some (.int .i64 x.sl) := by have := hca (j * 5 + 2) _ (sfVals_get hx 2 (by omega)); rw [← Nat.add_assoc] at this; exact this
      have v3 : wr.cell? ⟨ba, fa + j * 5 + 3, none⟩ = some (.int .i64 x.fr) := by have := hca (j * 5 + 3) _ (sfVals_get hx 3 (by omega)); rw [← Nat.add_assoc] at this; exact this
      have v4 : wr.cell? ⟨ba, fa + j * 5 + 4, none⟩ = some (.int .i64 x.tt) := by have := hca (j * 5 + 4) _ (sfVals_get hx 4 (by omega)); rw [← Nat.add_assoc] at this; exact this

      have u0 : wr.cell? ⟨bb, fb + j * 5, none⟩ = some (.int .i64 x.mv) := by have := hcb (j * 5 + 0) _ (sfVals_get hx 0 (by omega)); simpa using this
      have u1 : wr.cell? ⟨bb, fb + j * 5 + 1, none⟩ = some (.int .i64 x.th) := by have := hcb (j * 5 + 1) _ (sfVals_get hx 1 (by omega)); rw [← Nat.add_assoc] at this; exact this
      have u2 : wr.cell? ⟨bb, fb + j * 5 + 2, none⟩ = some (.int .i64 x.sl) := by have := hcb (j * 5 + 2) _ (sfVals_get hx 2 (by omega)); rw [← Nat.add_assoc] at this; exact this
      have u3 : wr.cell? ⟨bb, fb + j * 5 + 3, none⟩ = some (.int .i64 x.fr) := by have := hcb (j * 5 + 3) _ (sfVals_get hx 3 (by omega)); rw [← Nat.add_assoc] at this; exact this
      have u4 : wr.cell? ⟨bb, fb + j * 5 + 4, none⟩ = some (.int .i64 x.tt) := by have := hcb (j * 5 + 4) _ (sfVals_get hx 4 (by omega)); rw [← Nat.add_assoc] at this; exact this

      have hla : ba < wr.heap.size := by omega
      have hlb : bb < wr.heap.size := by omega
      clear hca hcb hx
      go_upto_region 6 with fail
      go_quiet (fail)
      go_wp2_with fail
      go_roundg (gk - 1)
      case measure => omega
      case rel => exact ⟨j + 1, by omega, by go_num, below_drewN hBr.out nq⟩
    · obtain rfl : j = l.length := by omega
      go_wp2_with fail
      go_ret
      exact ⟨rfl, hBr.out⟩

set_option maxRecDepth 100000 in
set_option maxHeartbeats 1000000 in
theorem sty_same (l : List St) (A B : Option Addr) (c d : Nat) (w : World) (hA : Sl w w.heap.size 4 A l.length (styVals l)) (hB : Sl w w.heap.size 4 B l.length (styVals l)) (hn : l.length ≤ 140737488355328) :
    Calls Try.prog 20 #[.slice A l.length c, .slice B l.length d] w (BoolR true w) := by
  have HA := Lib.hid hA
  have HB := Lib.hid hB
  have e9 : ((l.length : Int) != l.length) = false := by simp
  clear hA hB
  go_enter Try.func20, Try.ntmps20
  go_wp2_with fail
  go_loopg [5] l.length (fun gk i wr => ∃ (j : Nat), j + gk = l.length ∧ i = .int .i64 j ∧ Hid (Below w.heap.size w wr))
  case atStart => exact ⟨0, by omega, rfl, Below.refl _ _⟩
  case round =>
    obtain ⟨j, hj, rfl, hBr⟩ := hrel
    by_cases hlt : j < l.length
    · obtain ⟨x, hx⟩ := at_lt hlt
      have e1 : (j : Int) < l.length := by omega
      have e0 : (0 : Int) ≤ j := by omega
      have hzr := hBr.out.size
      obtain ⟨ba, fa, rfl, hba, hca⟩ := (HA.out.below hBr.out).2 (by omega)
      obtain ⟨bb, fb, rfl, hbb, hcb⟩ := (HB.out.below hBr.out).2 (by omega)
      have v0 : wr.cell? ⟨ba, fa + j * 4, none⟩ = some (.int .i64 x.th) := by have := hca (j * 4 + 0) _ (styVals_get hx 0 (by omega)); simpa using this
      have v1 : wr.cell? ⟨ba, fa + j * 4 + 1, none⟩ = some (.bool x.sh) := by have := hca (j * 4 + 1) _ (styVals_get hx 1 (by omega)); rw [← Nat.add_assoc] at this; exact this
      have v2 : wr.cell? ⟨ba, fa + j * 4 + 2, none⟩ = some (.int .i64 x.fr) := by have := hca (j * 4 + 2) _ (styVals_get hx 2 (by omega)); rw [← Nat.add_assoc] at this; exact this
      have v3 : wr.cell? ⟨ba, fa + j * 4 + 3, none⟩ = some (.int .i64 x.til) := by have := hca (j * 4 + 3) _ (styVals_get hx 3 (by omega)); rw [← Nat.add_assoc] at this; exact this

      have u0 : wr.cell? ⟨bb, fb + j * 4, none⟩ = some (.int .i64 x.th) := by have := hcb (j * 4 + 0) _ (styVals_get hx 0 (by omega)); simpa using this
      have u1 : wr.cell? ⟨bb, fb + j * 4 + 1, none⟩ = some (.bool x.sh) := by have := hcb (j * 4 + 1) _ (styVals_get hx 1 (by omega)); rw [← Nat.add_assoc] at this; exact this
      have u2 : wr.cell? ⟨bb, fb + j * 4 + 2, none⟩ = some (.int .i64 x.fr) := by have := hcb (j * 4 + 2) _ (styVals_get hx 2 (by omega)); rw [← Nat.add_assoc] at this; exact this
      have u3 : wr.cell? ⟨bb, fb + j * 4 + 3, none⟩ = some (.int .i64 x.til) := by have := hcb (j * 4 + 3) _ (styVals_get hx 3 (by omega)); rw [← Nat.add_assoc] at this; exact this

      have hla : ba < wr.heap.size := by omega
      have hlb : bb < wr.heap.size := by omega
      clear hca hcb hx
      go_upto_region 6 with fail
      go_quiet (fail)
      go_wp2_with fail
      go_roundg (gk - 1)
      case measure => omega
      case rel => exact ⟨j + 1, by omega, by go_num, below_drewN hBr.out nq⟩
    · obtain rfl : j = l.length := by omega
      go_wp2_with fail
      go_ret
      exact ⟨rfl, hBr.out⟩

theorem gb_none {B : Nat} {w w' : World} (h : w.grownBy w' none) (hB : B ≤ w.heap.size) : Below B w w' := ⟨h.os, h.tape, h.output, h.size, fun k hk => h.block k (by omega) (by simp)⟩
theorem own_gb {w w' : World} {B : Nat} {e : TypeId} {size n : Nat} {v : Value} {xs : List Value} (h : w.ownsRow B e size v n xs) (hg : w.grownBy w' none) : w'.ownsRow B e size v n xs := h.kept hg (by cases hv : v.ownBlock <;> simp)
theorem app_w {P : Program} (w : World) {o : Oper} {a : Act} {K : Act → World → Prop} {Q : Exit → Act → World → Prop} (s x : Operand) (t : TypeId)
    (ho : o.op = .call { callee := .builtin .append, args := #[s, x], argTypes := #[t, t] })
    (base : Nat) (e : TypeId) (i : TypeInfo) (z : Value) (size bytes : Nat) (ht : P.underlying t = some (.slice e)) (hi : P.info? e = some i) (hz : i.zero = some z)
    (hsize : i.size = size) (hby : i.bytes = bytes) (hzs : z.cells.size = size) (hsz : 0 < size)
    (v : Value) (n : Nat) (xs : List Value) (hv : a.eval s = v) (hown : w.ownsRow base e size v n xs)
    (B : Nat) (A : Option Addr) (m c : Nat) (news : List Value) (hx : a.eval x = .slice A m c) (hs : Sl w B size A m news) (h1 : ∀ u ∈ news, u.oneCell' = true)
    (N : Nat) (hN : n + m = N) (ys : List Value) (hys : xs ++ news = ys) (row : Option Nat) (hrow : v.ownBlock = row) (h63 : N ≤ maxLen) (hbytes : N * bytes ≤ 140737488355328) (hbase : base ≤ w.heap.size)
    (h : ∀ A' k' w', w'.ownsRow base e size (.slice A' N k') N ys → w.grownBy w' row → ((Value.slice A' N k').ownBlock = row ∨ (Value.slice A' N k').ownBlock = some w.heap.size) → N ≤ k' → k' ≤ maxLen →
      K (a.put o.dst (.slice A' N k')) w') : W1 (o.wp P a w K Q) :=
  ⟨wp_app w s x t ho base e i z size bytes ht hi hz hsize hby hzs hsz v n xs hv hown B A m c news hx hs h1 N hN ys hys row hrow h63 hbytes hbase h⟩
def CopR (calls : List Cal) (tr : List Ac) (sh : List Sf) (words : List Int) (w : World) (e : Ending) (w' : World) : Prop := ∃ Ac kc At kt As ks Aw kw, e = .returned (.agg #[.slice Ac calls.length kc, .slice At tr.length kt, .slice As sh.length ks, .slice Aw words.length kw]) ∧ w'.ownsRow w.heap.size 62 9 (.slice Ac calls.length kc) calls.length (calVals calls) ∧ w'.ownsRow w.heap.size 66 7 (.slice At tr.length kt) tr.length (acVals tr) ∧
  w'.ownsRow w.heap.size 94 5 (.slice As sh.length ks) sh.length (sfVals sh) ∧ w'.ownsRow w.heap.size 34 1 (.slice Aw words.length kw) words.length (u64s words) ∧ Below w.heap.size w w'
set_option maxRecDepth 100000 in
set_option maxHeartbeats 4000000 in
theorem copyrun_any (calls : List Cal) (tr : List Ac) (sh : List Sf) (words : List Int) (Ac At As Aw : Option Addr) (kc kt ks kw : Nat) (w : World) (hc : Sl w w.heap.size 9 Ac calls.length (calVals calls)) (ht : Sl w w.heap.size 7 At tr.length (acVals tr)) (hs : Sl w w.heap.size 5 As sh.length (sfVals sh)) (hw : Sl w w.heap.size 1 Aw words.length (u64s words))
    (hn : calls.length * 72 ≤ 140737488355328 ∧ tr.length * 56 ≤ 140737488355328 ∧ sh.length * 40 ≤ 140737488355328 ∧ words.length * 8 ≤ 140737488355328) :
    Calls Try.prog 16 #[.agg #[.slice Ac calls.length kc, .slice At tr.length kt, .slice As sh.length ks, .slice Aw words.length kw]] w (CopR calls tr sh words w) := by
  obtain ⟨i1, hi1, hi1z, hi1s, hi1b⟩ := info_parts info_cac
  obtain ⟨i2, hi2, hi2z, hi2s, hi2b⟩ := info_parts info_caa
  obtain ⟨i3, hi3, hi3z, hi3s, hi3b⟩ := info_parts info_csh
  obtain ⟨i4, hi4, hi4z, hi4s, hi4b⟩ := info_parts info_wz
  go_enter Try.func16, Try.ntmps16
  go_upto_region 1 with fail
  have hb0 : Below w.heap.size w ((w.alloc (.cells #[.slice Ac calls.length kc, .slice At tr.length kt, .slice As sh.length ks, .slice Aw words.length kw] 39)).alloc (.cells #[.slice none 0 0, .slice none 0 0, .slice none 0 0, .slice none 0 0] 39)) := ((Below.refl _ _).alloc (Nat.le_refl _) _).alloc (by simp) _
  have hr0 : Blk ((w.alloc (.cells #[.slice Ac calls.length kc, .slice At tr.length kt, .slice As sh.length ks, .slice Aw words.length kw] 39)).alloc (.cells #[.slice none 0 0, .slice none 0 0, .slice none 0 0, .slice none 0 0] 39)) w.heap.size 39 [.slice Ac calls.length kc, .slice At tr.length kt, .slice As sh.length ks, .slice Aw words.length kw] := (Blk.new w _ _).alloc _
  have hq0 : Blk ((w.alloc (.cells #[.slice Ac calls.length kc, .slice At tr.length kt, .slice As sh.length ks, .slice Aw words.length kw] 39)).alloc (.cells #[.slice none 0 0, .slice none 0 0, .slice none 0 0, .slice none 0 0] 39)) (w.heap.size + 1) 39 [.slice none 0 0, .slice none 0 0, .slice none 0 0, .slice none 0 0] := new1_blk' _ _ _ _
  generalize (w.alloc (.cells #[.slice Ac calls.length kc, .slice At tr.length kt, .slice As sh.length ks, .slice Aw words.length kw] 39)).alloc (.cells #[.slice none 0 0, .slice none 0 0, .slice none 0 0, .slice none 0 0] 39) = w0 at hb0 hr0 hq0 ⊢
  have hrl := hr0.lt
  have hql := hq0.lt
  have hz0 := hb0.size
  have Hhc := Lib.hid ((hc.below hb0).up hz0)
  have Hht := Lib.hid ((ht.below hb0).up hz0)
  have Hhs := Lib.hid ((hs.below hb0).up hz0)
  have Hhw := Lib.hid ((hw.below hb0).up hz0)
  have HSo : Hid (∀ W, Below w0.heap.size w0 W → W.cell? ⟨w.heap.size, 0, none⟩ = some (.slice Ac calls.length kc) ∧ W.cell? ⟨w.heap.size, 1, none⟩ = some (.slice At tr.length kt) ∧ W.cell? ⟨w.heap.size, 2, none⟩ = some (.slice As sh.length ks) ∧ W.cell? ⟨w.heap.size, 3, none⟩ = some (.slice Aw words.length kw)) := Lib.hid fun W hW => ⟨(hr0.below hW hrl).cell rfl, (hr0.below hW hrl).cell rfl, (hr0.below hW hrl).cell rfl, (hr0.below hW hrl).cell rfl⟩
  have HQ0 := Lib.hid hq0
  have HR0 := Lib.hid hr0
  have HBw := Lib.hid hb0
  clear hc ht hs hw hb0 hr0 hq0
  refine wp_region_held_drew (S := fun W => W.cell? ⟨w.heap.size, 0, none⟩ = some (.slice Ac calls.length kc) ∧ W.cell? ⟨w.heap.size, 1, none⟩ = some (.slice At tr.length kt) ∧ W.cell? ⟨w.heap.size, 2, none⟩ = some (.slice As sh.length ks) ∧ W.cell? ⟨w.heap.size, 3, none⟩ = some (.slice Aw words.length kw)) (by kernel_rfl) (HSo.out _ (Below.refl _ _).drew) (fun hS => ?_)
  iterate 2 (refine tkF 0 (v := ?_) ?_ ?_; rotate_left; · (intro W hSw; (try dsimp only at hSw); go_simp; try with_reducible rfl); try simp only [Act.put, List.setIfInBounds_toArray, List.set_cons_zero, List.set_cons_succ])
  iterate 2 (refine tkF 3 (v := ?_) ?_ ?_; rotate_left; · (intro W hSw; (try dsimp only at hSw); go_simp; try with_reducible rfl); try simp only [Act.put, List.setIfInBounds_toArray, List.set_cons_zero, List.set_cons_succ])
  iterate 2 (refine tkF 6 (v := ?_) ?_ ?_; rotate_left; · (intro W hSw; (try dsimp only at hSw); go_simp; try with_reducible rfl); try simp only [Act.put, List.setIfInBounds_toArray, List.set_cons_zero, List.set_cons_succ])
  iterate 2 (refine tkF 9 (v := ?_) ?_ ?_; rotate_left; · (intro W hSw; (try dsimp only at hSw); go_simp; try with_reducible rfl); try simp only [Act.put, List.setIfInBounds_toArray, List.set_cons_zero, List.set_cons_succ])
  obtain ⟨V0, hV9, HB0⟩ : ∃ Z9, Z9 = w0.drew ∧ Hid (Below w0.heap.size w0 Z9) := ⟨_, rfl, (Below.refl _ _).drew⟩
  rw [← hV9]
  clear hV9
  refine rw1 2 fun K0 hK0 => ?_
  refine app_w _ _ _ 35 (by rfl) (w.heap.size + 1) 62 i1 (.agg #[.int .i64 0, .int .i64 0, .int .i64 0, .int .i64 0, .int .i64 0, .int .i64 0, .int .i64 0, .int .i64 0, .int .i64 0]) 9 72 Try.underlying35 hi1 hi1z hi1s hi1b rfl (by decide) (.slice none 0 0) 0 [] (by rfl) (World.ownsRow_nil _ _ _ _) V0.heap.size Ac calls.length _ (calVals calls) (by rfl) ((Hhc.out.below (HB0.out)).up HB0.out.size) (flat_one calL_one _) calls.length (Nat.zero_add _) _ rfl none rfl (by simp only [maxLen]; omega) (by omega) (by have := HB0.out.size; omega) ?_
  intro A0' k0' V1 hown0 hg0 hat0 hk01 hk02
  rw [List.nil_append] at hown0
  have HB1 : Hid (Below w0.heap.size w0 V1) := HB0.out.trans (gb_none hg0 HB0.out.size)
  have HO0 := Lib.hid hown0
  clear hown0 hat0
  refine hK0.out _ _ (HSo.out _ HB1.out) (fun hS1 => ?_)
  try simp only [Act.put, List.setIfInBounds_toArray, List.set_cons_zero, List.set_cons_succ]
  clear hg0

  refine rw1 5 fun K1 hK1 => ?_
  refine app_w _ _ _ 36 (by rfl) (w.heap.size + 1) 66 i2 (.agg #[.int .i64 0, .int .i64 0, .int .i64 0, .int .i64 0, .int .u64 0, .int .u64 0, .int .u64 0]) 7 56 Try.underlying36 hi2 hi2z hi2s hi2b rfl (by decide) (.slice none 0 0) 0 [] (by rfl) (World.ownsRow_nil _ _ _ _) V1.heap.size At tr.length _ (acVals tr) (by rfl) ((Hht.out.below (HB1.out)).up HB1.out.size) (flat_one acL_one' _) tr.length (Nat.zero_add _) _ rfl none rfl (by simp only [maxLen]; omega) (by omega) (by have := HB1.out.size; omega) ?_
  intro A1' k1' V2 hown1 hg1 hat1 hk11 hk12
  rw [List.nil_append] at hown1
  have HB2 : Hid (Below w0.heap.size w0 V2) := HB1.out.trans (gb_none hg1 HB1.out.size)
  have HO1 := Lib.hid hown1
  clear hown1 hat1
  refine hK1.out _ _ (HSo.out _ HB2.out) (fun hS2 => ?_)
  try simp only [Act.put, List.setIfInBounds_toArray, List.set_cons_zero, List.set_cons_succ]
  have HO0 := Lib.hid (own_gb HO0.out hg1)
  clear hg1

  refine rw1 8 fun K2 hK2 => ?_
  refine app_w _ _ _ 37 (by rfl) (w.heap.size + 1) 94 i3 (.agg #[.int .i64 0, .int .i64 0, .int .i64 0, .int .i64 0, .int .i64 0]) 5 40 Try.underlying37 hi3 hi3z hi3s hi3b rfl (by decide) (.slice none 0 0) 0 [] (by rfl) (World.ownsRow_nil _ _ _ _) V2.heap.size As sh.length _ (sfVals sh) (by rfl) ((Hhs.out.below (HB2.out)).up HB2.out.size) (flat_one sfL_one _) sh.length (Nat.zero_add _) _ rfl none rfl (by simp only [maxLen]; omega) (by omega) (by have := HB2.out.size; omega) ?_
  intro A2' k2' V3 hown2 hg2 hat2 hk21 hk22
  rw [List.nil_append] at hown2
  have HB3 : Hid (Below w0.heap.size w0 V3) := HB2.out.trans (gb_none hg2 HB2.out.size)
  have HO2 := Lib.hid hown2
  clear hown2 hat2
  refine hK2.out _ _ (HSo.out _ HB3.out) (fun hS3 => ?_)
  try simp only [Act.put, List.setIfInBounds_toArray, List.set_cons_zero, List.set_cons_succ]
  have HO0 := Lib.hid (own_gb HO0.out hg2)
  have HO1 := Lib.hid (own_gb HO1.out hg2)
  clear hg2

  refine rw1 11 fun K3 hK3 => ?_
  refine app_w _ _ _ 27 (by rfl) (w.heap.size + 1) 34 i4 (.int .u64 0) 1 8 Try.underlying27 hi4 hi4z hi4s hi4b rfl (by decide) (.slice none 0 0) 0 [] (by rfl) (World.ownsRow_nil _ _ _ _) V3.heap.size Aw words.length _ (u64s words) (by rfl) ((Hhw.out.below (HB3.out)).up HB3.out.size) (u64s_one' _) words.length (Nat.zero_add _) _ rfl none rfl (by simp only [maxLen]; omega) (by omega) (by have := HB3.out.size; omega) ?_
  intro A3' k3' V4 hown3 hg3 hat3 hk31 hk32
  rw [List.nil_append] at hown3
  have HB4 : Hid (Below w0.heap.size w0 V4) := HB3.out.trans (gb_none hg3 HB3.out.size)
  have HO3 := Lib.hid hown3
  clear hown3 hat3
  refine hK3.out _ _ (HSo.out _ HB4.out) (fun hS4 => ?_)
  try simp only [Act.put, List.setIfInBounds_toArray, List.set_cons_zero, List.set_cons_succ]
  have HO0 := Lib.hid (own_gb HO0.out hg3)
  have HO1 := Lib.hid (own_gb HO1.out hg3)
  have HO2 := Lib.hid (own_gb HO2.out hg3)
  clear hg3

  refine tkF 12 (v := ?_) ?_ ?_
  rotate_left
  · (intro W hSw; (try dsimp only at hSw); go_simp; try with_reducible rfl)
  try simp only [Act.put, List.setIfInBounds_toArray, List.set_cons_zero, List.set_cons_succ]
  refine rd 13 fun K9 hK9 => ?_
  have HQ4 : Blk V4 (w.heap.size + 1) 39 [.slice none 0 0, .slice none 0 0, .slice none 0 0, .slice none 0 0] := HQ0.out.below HB4.out hql
  have q0 := HQ4.cell (i := 0) rfl
  have q1 := HQ4.cell (i := 1) rfl
  have q2 := HQ4.cell (i := 2) rfl
  have q3 := HQ4.cell (i := 3) rfl
  have p0 := HQ4.frozen 0
  have p1 := HQ4.frozen 1
  have p2 := HQ4.frozen 2
  have p3 := HQ4.frozen 3
  go_simp
  obtain ⟨VF, hVF, HBF, HRF, HSF, HOF0, HOF1, HOF2, HOF3⟩ : ∃ VF, VF = (((V4.setCell ⟨w.heap.size + 1, 0, none⟩ (.slice A0' calls.length k0')).setCell ⟨w.heap.size + 1, 1, none⟩ (.slice A1' tr.length k1')).setCell ⟨w.heap.size + 1, 2, none⟩ (.slice A2' sh.length k2')).setCell ⟨w.heap.size + 1, 3, none⟩ (.slice A3' words.length k3') ∧ Hid (Below w.heap.size w VF) ∧
      Blk VF (w.heap.size + 1) 39 [.slice A0' calls.length k0', .slice A1' tr.length k1', .slice A2' sh.length k2', .slice A3' words.length k3'] ∧ Blk VF w.heap.size 39 [.slice Ac calls.length kc, .slice At tr.length kt, .slice As sh.length ks, .slice Aw words.length kw] ∧ Hid (VF.ownsRow (w.heap.size + 1) 62 9 (.slice A0' calls.length k0') calls.length (calVals calls)) ∧ Hid (VF.ownsRow (w.heap.size + 1) 66 7 (.slice A1' tr.length k1') tr.length (acVals tr)) ∧ Hid (VF.ownsRow (w.heap.size + 1) 94 5 (.slice A2' sh.length k2') sh.length (sfVals sh)) ∧ Hid (VF.ownsRow (w.heap.size + 1) 34 1 (.slice A3' words.length k3') words.length (u64s words)) := by
    have hb := HBw.out.trans (HB4.out.mono hz0)
    have ko : ∀ {B e s n : Nat} {v : Value} {xs : List Value}, V4.ownsRow B e s v n xs → e ≠ 39 → ((((V4.setCell ⟨w.heap.size + 1, 0, none⟩ (.slice A0' calls.length k0')).setCell ⟨w.heap.size + 1, 1, none⟩ (.slice A1' tr.length k1')).setCell ⟨w.heap.size + 1, 2, none⟩ (.slice A2' sh.length k2')).setCell ⟨w.heap.size + 1, 3, none⟩ (.slice A3' words.length k3')).ownsRow B e s v n xs := fun h hne => by
      have hn := own_blk_ne h HQ4 hne
      exact own_setf (own_setf (own_setf (own_setf h hn _) hn _) hn _) hn _
    refine ⟨_, rfl, (((hb.setCell (by simp) _).setCell (by simp) _).setCell (by simp) _).setCell (by simp) _, (((HQ4.set_ 0 _).set_ 1 _).set_ 2 _).set_ 3 _, ?_, ko HO0.out (by decide), ko HO1.out (by decide), ko HO2.out (by decide), ko HO3.out (by decide)⟩
    exact ((((HR0.out.below HB4.out hrl).far (by simp) _).far (by simp) _).far (by simp) _).far (by simp) _
  rw [← hVF]
  clear hVF
  have hS9 : VF.cell? ⟨w.heap.size, 0, none⟩ = some (.slice Ac calls.length kc) ∧ VF.cell? ⟨w.heap.size, 1, none⟩ = some (.slice At tr.length kt) ∧ VF.cell? ⟨w.heap.size, 2, none⟩ = some (.slice As sh.length ks) ∧ VF.cell? ⟨w.heap.size, 3, none⟩ = some (.slice Aw words.length kw) := ⟨HSF.cell rfl, HSF.cell rfl, HSF.cell rfl, HSF.cell rfl⟩
  refine hK9.out _ _ hS9 (fun _ => ?_)
  refine wpAnyH_done (by kernel_rfl) ?_ _
  go_wp2_with fail
  refine bodyPost_ret_by (results_cell_row rfl _ _ (w.heap.size + 1) 39 _ (0, 0) _ rfl HRF Try.underlying39 rfl (by kernel_rfl)) rfl ?_
  exact ⟨A0', k0', A1', k1', A2', k2', A3', k3', rfl, own_low9 HOF0.out (by omega), own_low9 HOF1.out (by omega), own_low9 HOF2.out (by omega), own_low9 HOF3.out (by omega), HBF.out⟩
theorem rstays_sorted (calls : List Cal) : (Sort.insertionSort (ltOf styC) (stays0 calls).toArray 0 (stays0 calls).length).toList = rstays calls := by
  rw [sty_klt, insS_list]
  rfl
theorem rtouch_sorted (calls : List Cal) : (Sort.insertionSort (ltOf calC) (calls.filter Cal.isTouch).toArray 0 (calls.filter Cal.isTouch).length).toList = rtouch calls := by
  rw [cal_klt, insS_list]
  rfl
theorem rstays_len (calls : List Cal) : (rstays calls).length = (stays0 calls).length := by rw [rstays, foldl_ins_len]; simp
theorem sty_all (calls : List Cal) (hn : calls.length ≤ 1954687338211) : styS (stays0 calls) (rstays calls) := by
  have h := sty_sorts (stays0 calls) (by have := stays0_len calls; omega)
  rw [rstays_sorted] at h
  exact h
theorem cal_all (calls : List Cal) (hn : calls.length ≤ 1954687338211) : calS (calls.filter Cal.isTouch) (rtouch calls) := by
  have h := cal_sorts (calls.filter Cal.isTouch) (by have := List.length_filter_le Cal.isTouch calls; omega)
  rw [rtouch_sorted] at h
  exact h
set_option maxRecDepth 100000 in
theorem samerun_any (calls : List Cal) (tr : List Ac) (sh : List Sf) (words : List Int) (Ac At As Aw Bc Bt Bs Bw : Option Addr) (kc kt ks kw lc lt ls lw : Nat) (w : World)
    (hc : Sl w w.heap.size 9 Ac calls.length (calVals calls)) (ht : Sl w w.heap.size 7 At tr.length (acVals tr)) (hs : Sl w w.heap.size 5 As sh.length (sfVals sh)) (hw : Sl w w.heap.size 1 Aw words.length (u64s words))
    (gc : Sl w w.heap.size 9 Bc calls.length (calVals calls)) (gt : Sl w w.heap.size 7 Bt tr.length (acVals tr)) (gs : Sl w w.heap.size 5 Bs sh.length (sfVals sh)) (gw : Sl w w.heap.size 1 Bw words.length (u64s words))
    (hn : calls.length * 72 ≤ 140737488355328 ∧ tr.length * 56 ≤ 140737488355328 ∧ sh.length * 40 ≤ 140737488355328 ∧ words.length * 8 ≤ 140737488355328) :
    Calls Try.prog 19 #[.agg #[.slice Ac calls.length kc, .slice At tr.length kt, .slice As sh.length ks, .slice Aw words.length kw], .agg #[.slice Bc calls.length lc, .slice Bt tr.length lt, .slice Bs sh.length ls, .slice Bw words.length lw]] w (BoolR true w) := by
  obtain ⟨n1, n2, n3, n4⟩ := hn
  have HC : Hid (∀ W, Below w.heap.size w W → Calls Try.prog 39 #[.slice Ac calls.length kc, .slice Bc calls.length lc] W (BoolR true W)) := Lib.hid fun W hW => cal_same calls Ac Bc kc lc W ((hc.below hW).up hW.size) ((gc.below hW).up hW.size) (by omega)
  have HT : Hid (∀ W, Below w.heap.size w W → Calls Try.prog 40 #[.slice At tr.length kt, .slice Bt tr.length lt] W (BoolR true W)) := Lib.hid fun W hW => acc_same tr At Bt kt lt W ((ht.below hW).up hW.size) ((gt.below hW).up hW.size) (by omega)
  have HF : Hid (∀ W, Below w.heap.size w W → Calls Try.prog 41 #[.slice As sh.length ks, .slice Bs sh.length ls] W (BoolR true W)) := Lib.hid fun W hW => shf_same sh As Bs ks ls W ((hs.below hW).up hW.size) ((gs.below hW).up hW.size) (by omega)
  have HW : Hid (∀ W, Below w.heap.size w W → Calls Try.prog 14 #[.slice Aw words.length kw, .slice Bw words.length lw] W (BoolR true W)) := Lib.hid fun W hW => samew_any words Aw Bw kw lw W ((hw.below hW).up hW.size) ((gw.below hW).up hW.size) (by omega)
  clear hc ht hs hw gc gt gs gw n1 n2 n3 n4
  go_enter Try.func19, Try.ntmps19
  go_upto_region 1 with fail
  have hb0 : Below w.heap.size w ((w.alloc (.cells #[.slice Ac calls.length kc, .slice At tr.length kt, .slice As sh.length ks, .slice Aw words.length kw] 39)).alloc (.cells #[.slice Bc calls.length lc, .slice Bt tr.length lt, .slice Bs sh.length ls, .slice Bw words.length lw] 39)) := ((Below.refl _ _).alloc (Nat.le_refl _) _).alloc (by simp) _
  have ha : Blk ((w.alloc (.cells #[.slice Ac calls.length kc, .slice At tr.length kt, .slice As sh.length ks, .slice Aw words.length kw] 39)).alloc (.cells #[.slice Bc calls.length lc, .slice Bt tr.length lt, .slice Bs sh.length ls, .slice Bw words.length lw] 39)) w.heap.size 39 [.slice Ac calls.length kc, .slice At tr.length kt, .slice As sh.length ks, .slice Aw words.length kw] := (Blk.new w _ _).alloc _
  have hb : Blk ((w.alloc (.cells #[.slice Ac calls.length kc, .slice At tr.length kt, .slice As sh.length ks, .slice Aw words.length kw] 39)).alloc (.cells #[.slice Bc calls.length lc, .slice Bt tr.length lt, .slice Bs sh.length ls, .slice Bw words.length lw] 39)) (w.heap.size + 1) 39 [.slice Bc calls.length lc, .slice Bt tr.length lt, .slice Bs sh.length ls, .slice Bw words.length lw] := new1_blk' _ _ _ _
  generalize (w.alloc (.cells #[.slice Ac calls.length kc, .slice At tr.length kt, .slice As sh.length ks, .slice Aw words.length kw] 39)).alloc (.cells #[.slice Bc calls.length lc, .slice Bt tr.length lt, .slice Bs sh.length ls, .slice Bw words.length lw] 39) = w0 at hb0 ha hb ⊢
  have HB0 := Lib.hid hb0
  have HA0 := Lib.hid ha
  have HD0 := Lib.hid hb
  have a0 : w0.cell? ⟨w.heap.size, 0, none⟩ = some (.slice Ac calls.length kc) := ha.cell rfl
  have b0 : w0.cell? ⟨w.heap.size + 1, 0, none⟩ = some (.slice Bc calls.length lc) := hb.cell rfl
  clear hb0 ha hb
  go_wp2_with fail
  refine (HC.out _ HB0.out).mono ?_
  rintro e w1 ⟨rfl, hb1⟩
  have HB1 := Lib.hid (HB0.out.trans (hb1.mono HB0.out.size))
  have HA1 := Lib.hid (HA0.out.below hb1 HA0.out.lt)
  have HD1 := Lib.hid (HD0.out.below hb1 HD0.out.lt)
  have a1 : w1.cell? ⟨w.heap.size, 1, none⟩ = some (.slice At tr.length kt) := HA1.out.cell rfl
  have b1 : w1.cell? ⟨w.heap.size + 1, 1, none⟩ = some (.slice Bt tr.length lt) := HD1.out.cell rfl
  clear hb1 a0 b0
  go_wp2_with fail
  refine (HT.out _ HB1.out).mono ?_
  rintro e w2 ⟨rfl, hb2⟩
  have HB2 := Lib.hid (HB1.out.trans (hb2.mono HB1.out.size))
  have HA2 := Lib.hid (HA1.out.below hb2 HA1.out.lt)
  have HD2 := Lib.hid (HD1.out.below hb2 HD1.out.lt)
  have a2 : w2.cell? ⟨w.heap.size, 2, none⟩ = some (.slice As sh.length ks) := HA2.out.cell rfl
  have b2 : w2.cell? ⟨w.heap.size + 1, 2, none⟩ = some (.slice Bs sh.length ls) := HD2.out.cell rfl
  clear hb2 a1 b1
  go_wp2_with fail
  refine (HF.out _ HB2.out).mono ?_
  rintro e w3 ⟨rfl, hb3⟩
  have HB3 := Lib.hid (HB2.out.trans (hb3.mono HB2.out.size))
  have HA3 := Lib.hid (HA2.out.below hb3 HA2.out.lt)
  have HD3 := Lib.hid (HD2.out.below hb3 HD2.out.lt)
  have a3 : w3.cell? ⟨w.heap.size, 3, none⟩ = some (.slice Aw words.length kw) := HA3.out.cell rfl
  have b3 : w3.cell? ⟨w.heap.size + 1, 3, none⟩ = some (.slice Bw words.length lw) := HD3.out.cell rfl
  clear hb3 a2 b2
  go_wp2_with fail
  refine (HW.out _ HB3.out).mono ?_
  rintro e w4 ⟨rfl, hb4⟩
  have HB4 := Lib.hid (HB3.out.trans (hb4.mono HB3.out.size))
  have HA4 := Lib.hid (HA3.out.below hb4 HA3.out.lt)
  have HD4 := Lib.hid (HD3.out.below hb4 HD3.out.lt)
  clear hb4 a3 b3
  go_wp2_with fail
  go_ret
  exact ⟨rfl, HB4.out⟩
end Go.Proofs.Ytjnmlgfkiebkgaa
