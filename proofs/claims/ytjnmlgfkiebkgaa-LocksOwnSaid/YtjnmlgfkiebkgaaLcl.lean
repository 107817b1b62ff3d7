/-
  The five makers of the locks' kit.
-/
import Derived.Test.YtjnmlgfkiebkgaaLmt
namespace Go.Proofs.Ytjnmlgfkiebkgaa
open Go.RowKit
set_option linter.unusedVariables false
set_option linter.unusedSimpArgs false

/-- what a maker answers -/
def MkR (W : World) (M : ML) (t : Nat) : Option Tp → Ending → World → Prop
  | none, e, w' => e = .returned .nilIface ∧ Below W.heap.size W w'
  | some p, e, w' => ∃ g, e = .returned (.iface (tkP p) (.pointer (some ⟨g, 0, none⟩))) ∧ Blk w' g (tkT p) (tkL (M.ls t) p) ∧ W.heap.size ≤ g ∧ Below W.heap.size W w'
abbrev moV (v : Mo) : Value := .agg #[.int .i64 v.th, .int .i64 v.op, .int .i64 v.arg, .int .i64 v.dat]
theorem new1_blk (w : World) (o : Obj) (cs : List Value) (t : TypeId) : Blk ((w.alloc o).alloc (.cells cs.toArray t)) (w.heap.size + 1) t cs := by
  have := Blk.new (w.alloc o) t cs
  rwa [World.size_alloc] at this
section
variable {W : World} {B : Nat} {M : ML} {m : Mc} {t : Nat} {h : Th}
set_option maxRecDepth 100000 in
set_option maxHeartbeats 1000000 in
theorem mk120_0 (H : MM W B M m) (hh : m.ths[t]? = some h) (hal : h.alone = true) (v : Mo) : Calls Try.prog 44 #[.int .i64 t, moV v, .pointer (some ⟨M.sv, 0, none⟩)] W (MkR W M t (none)) := by
  obtain ⟨z, hz⟩ := H.cv
  have htn : t < m.ths.length := (List.getElem?_eq_some_iff.1 hh).1
  obtain ⟨q1, q2, q3, q4, q5⟩ := H.ts t h hh
  have c1 : W.cell? ⟨M.cv, 1, none⟩ = some (.int .i64 m.kd) := hz.cell rfl
  have v0 : W.cell? ⟨M.sv, 0, none⟩ = some (.slice (some ⟨M.lg, 0, none⟩) m.ths.length m.ths.length) := H.sv.cell rfl
  have l0 : W.cell? ⟨M.lg, t, none⟩ = some (.pointer (some ⟨M.ls t, 0, none⟩)) := H.lr.cell (by rw [List.getElem?_map, List.getElem?_range htn]; rfl)
  have u1 : W.cell? ⟨M.ls t, 1, none⟩ = some (.bool h.alone) := q1.cell rfl
  have u2 : W.cell? ⟨M.ls t, 2, none⟩ = some (.bool h.shares) := q1.cell rfl
  have p1 := hz.lt
  have p2 := H.sv.lt
  have p3 := H.lr.lt
  have p4 := q1.lt
  have ntn : (t : Int) < m.ths.length := by omega
  rw [hal] at u1
  clear H hh q1 q2 q3 hz
  go_enter Try.func44, Try.ntmps44
  go_wp2_with fail
  go_ret
  exact ⟨rfl, (Below.refl _ _).alloc (Nat.le_refl _) _⟩
set_option maxRecDepth 100000 in
set_option maxHeartbeats 1000000 in
theorem mk120_1 (H : MM W B M m) (hh : m.ths[t]? = some h) (hal : h.alone = false) (hsh : h.shares = true) (v : Mo) : Calls Try.prog 44 #[.int .i64 t, moV v, .pointer (some ⟨M.sv, 0, none⟩)] W (MkR W M t (none)) := by
  obtain ⟨z, hz⟩ := H.cv
  have htn : t < m.ths.length := (List.getElem?_eq_some_iff.1 hh).1
  obtain ⟨q1, q2, q3, q4, q5⟩ := H.ts t h hh
  have c1 : W.cell? ⟨M.cv, 1, none⟩ = some (.int .i64 m.kd) := hz.cell rfl
  have v0 : W.cell? ⟨M.sv, 0, none⟩ = some (.slice (some ⟨M.lg, 0, none⟩) m.ths.length m.ths.length) := H.sv.cell rfl
  have l0 : W.cell? ⟨M.lg, t, none⟩ = some (.pointer (some ⟨M.ls t, 0, none⟩)) := H.lr.cell (by rw [List.getElem?_map, List.getElem?_range htn]; rfl)
  have u1 : W.cell? ⟨M.ls t, 1, none⟩ = some (.bool h.alone) := q1.cell rfl
  have u2 : W.cell? ⟨M.ls t, 2, none⟩ = some (.bool h.shares) := q1.cell rfl
  have p1 := hz.lt
  have p2 := H.sv.lt
  have p3 := H.lr.lt
  have p4 := q1.lt
  have ntn : (t : Int) < m.ths.length := by omega
  rw [hal] at u1
  rw [hsh] at u2
  clear H hh q1 q2 q3 hz
  go_enter Try.func44, Try.ntmps44
  go_wp2_with fail
  go_ret
  exact ⟨rfl, (Below.refl _ _).alloc (Nat.le_refl _) _⟩
set_option maxRecDepth 100000 in
set_option maxHeartbeats 1000000 in
theorem mk120_2 (H : MM W B M m) (hh : m.ths[t]? = some h) (hal : h.alone = false) (hsh : h.shares = false) (v : Mo) : Calls Try.prog 44 #[.int .i64 t, moV v, .pointer (some ⟨M.sv, 0, none⟩)] W (MkR W M t (some .acq)) := by
  obtain ⟨z, hz⟩ := H.cv
  have htn : t < m.ths.length := (List.getElem?_eq_some_iff.1 hh).1
  obtain ⟨q1, q2, q3, q4, q5⟩ := H.ts t h hh
  have c1 : W.cell? ⟨M.cv, 1, none⟩ = some (.int .i64 m.kd) := hz.cell rfl
  have v0 : W.cell? ⟨M.sv, 0, none⟩ = some (.slice (some ⟨M.lg, 0, none⟩) m.ths.length m.ths.length) := H.sv.cell rfl
  have l0 : W.cell? ⟨M.lg, t, none⟩ = some (.pointer (some ⟨M.ls t, 0, none⟩)) := H.lr.cell (by rw [List.getElem?_map, List.getElem?_range htn]; rfl)
  have u1 : W.cell? ⟨M.ls t, 1, none⟩ = some (.bool h.alone) := q1.cell rfl
  have u2 : W.cell? ⟨M.ls t, 2, none⟩ = some (.bool h.shares) := q1.cell rfl
  have p1 := hz.lt
  have p2 := H.sv.lt
  have p3 := H.lr.lt
  have p4 := q1.lt
  have ntn : (t : Int) < m.ths.length := by omega
  rw [hal] at u1
  rw [hsh] at u2
  clear H hh q1 q2 q3 hz
  go_enter Try.func44, Try.ntmps44
  go_wp2_with fail
  go_ret
  exact ⟨_, rfl, new1_blk _ _ _ _, by simp, ((Below.refl _ _).alloc (Nat.le_refl _) _).alloc (by simp) _⟩
set_option maxRecDepth 100000 in
set_option maxHeartbeats 1000000 in
theorem mk121_0 (H : MM W B M m) (hh : m.ths[t]? = some h) (hal : h.alone = true) (v : Mo) : Calls Try.prog 45 #[.int .i64 t, moV v, .pointer (some ⟨M.sv, 0, none⟩)] W (MkR W M t (some .rel)) := by
  obtain ⟨z, hz⟩ := H.cv
  have htn : t < m.ths.length := (List.getElem?_eq_some_iff.1 hh).1
  obtain ⟨q1, q2, q3, q4, q5⟩ := H.ts t h hh
  have c1 : W.cell? ⟨M.cv, 1, none⟩ = some (.int .i64 m.kd) := hz.cell rfl
  have v0 : W.cell? ⟨M.sv, 0, none⟩ = some (.slice (some ⟨M.lg, 0, none⟩) m.ths.length m.ths.length) := H.sv.cell rfl
  have l0 : W.cell? ⟨M.lg, t, none⟩ = some (.pointer (some ⟨M.ls t, 0, none⟩)) := H.lr.cell (by rw [List.getElem?_map, List.getElem?_range htn]; rfl)
  have u1 : W.cell? ⟨M.ls t, 1, none⟩ = some (.bool h.alone) := q1.cell rfl
  have u2 : W.cell? ⟨M.ls t, 2, none⟩ = some (.bool h.shares) := q1.cell rfl
  have p1 := hz.lt
  have p2 := H.sv.lt
  have p3 := H.lr.lt
  have p4 := q1.lt
  have ntn : (t : Int) < m.ths.length := by omega
  rw [hal] at u1
  clear H hh q1 q2 q3 hz
  go_enter Try.func45, Try.ntmps45
  go_wp2_with fail
  go_ret
  exact ⟨_, rfl, new1_blk _ _ _ _, by simp, ((Below.refl _ _).alloc (Nat.le_refl _) _).alloc (by simp) _⟩
set_option maxRecDepth 100000 in
set_option maxHeartbeats 1000000 in
theorem mk121_1 (H : MM W B M m) (hh : m.ths[t]? = some h) (hal : h.alone = false) (v : Mo) : Calls Try.prog 45 #[.int .i64 t, moV v, .pointer (some ⟨M.sv, 0, none⟩)] W (MkR W M t (none)) := by
  obtain ⟨z, hz⟩ := H.cv
  have htn : t < m.ths.length := (List.getElem?_eq_some_iff.1 hh).1
  obtain ⟨q1, q2, q3, q4, q5⟩ := H.ts t h hh
  have c1 : W.cell? ⟨M.cv, 1, none⟩ = some (.int .i64 m.kd) := hz.cell rfl
  have v0 : W.cell? ⟨M.sv, 0, none⟩ = some (.slice (some ⟨M.lg, 0, none⟩) m.ths.length m.ths.length) := H.sv.cell rfl
  have l0 : W.cell? ⟨M.lg, t, none⟩ = some (.pointer (some ⟨M.ls t, 0, none⟩)) := H.lr.cell (by rw [List.getElem?_map, List.getElem?_range htn]; rfl)
  have u1 : W.cell? ⟨M.ls t, 1, none⟩ = some (.bool h.alone) := q1.cell rfl
  have u2 : W.cell? ⟨M.ls t, 2, none⟩ = some (.bool h.shares) := q1.cell rfl
  have p1 := hz.lt
  have p2 := H.sv.lt
  have p3 := H.lr.lt
  have p4 := q1.lt
  have ntn : (t : Int) < m.ths.length := by omega
  rw [hal] at u1
  clear H hh q1 q2 q3 hz
  go_enter Try.func45, Try.ntmps45
  go_wp2_with fail
  go_ret
  exact ⟨rfl, (Below.refl _ _).alloc (Nat.le_refl _) _⟩
set_option maxRecDepth 100000 in
set_option maxHeartbeats 1000000 in
theorem mk122_0 (H : MM W B M m) (hh : m.ths[t]? = some h) (hkd : (m.kd != 7) = true) (v : Mo) : Calls Try.prog 46 #[.int .i64 t, moV v, .pointer (some ⟨M.cv, 0, none⟩), .pointer (some ⟨M.sv, 0, none⟩)] W (MkR W M t (none)) := by
  obtain ⟨z, hz⟩ := H.cv
  have htn : t < m.ths.length := (List.getElem?_eq_some_iff.1 hh).1
  obtain ⟨q1, q2, q3, q4, q5⟩ := H.ts t h hh
  have c1 : W.cell? ⟨M.cv, 1, none⟩ = some (.int .i64 m.kd) := hz.cell rfl
  have v0 : W.cell? ⟨M.sv, 0, none⟩ = some (.slice (some ⟨M.lg, 0, none⟩) m.ths.length m.ths.length) := H.sv.cell rfl
  have l0 : W.cell? ⟨M.lg, t, none⟩ = some (.pointer (some ⟨M.ls t, 0, none⟩)) := H.lr.cell (by rw [List.getElem?_map, List.getElem?_range htn]; rfl)
  have u1 : W.cell? ⟨M.ls t, 1, none⟩ = some (.bool h.alone) := q1.cell rfl
  have u2 : W.cell? ⟨M.ls t, 2, none⟩ = some (.bool h.shares) := q1.cell rfl
  have p1 := hz.lt
  have p2 := H.sv.lt
  have p3 := H.lr.lt
  have p4 := q1.lt
  have ntn : (t : Int) < m.ths.length := by omega

  clear H hh q1 q2 q3 hz
  go_enter Try.func46, Try.ntmps46
  go_wp2_with fail
  go_ret
  exact ⟨rfl, (Below.refl _ _).alloc (Nat.le_refl _) _⟩
set_option maxRecDepth 100000 in
set_option maxHeartbeats 1000000 in
theorem mk122_1 (H : MM W B M m) (hh : m.ths[t]? = some h) (hkd : (m.kd != 7) = false) (hal : h.alone = true) (v : Mo) : Calls Try.prog 46 #[.int .i64 t, moV v, .pointer (some ⟨M.cv, 0, none⟩), .pointer (some ⟨M.sv, 0, none⟩)] W (MkR W M t (none)) := by
  obtain ⟨z, hz⟩ := H.cv
  have htn : t < m.ths.length := (List.getElem?_eq_some_iff.1 hh).1
  obtain ⟨q1, q2, q3, q4, q5⟩ := H.ts t h hh
  have c1 : W.cell? ⟨M.cv, 1, none⟩ = some (.int .i64 m.kd) := hz.cell rfl
  have v0 : W.cell? ⟨M.sv, 0, none⟩ = some (.slice (some ⟨M.lg, 0, none⟩) m.ths.length m.ths.length) := H.sv.cell rfl
  have l0 : W.cell? ⟨M.lg, t, none⟩ = some (.pointer (some ⟨M.ls t, 0, none⟩)) := H.lr.cell (by rw [List.getElem?_map, List.getElem?_range htn]; rfl)
  have u1 : W.cell? ⟨M.ls t, 1, none⟩ = some (.bool h.alone) := q1.cell rfl
  have u2 : W.cell? ⟨M.ls t, 2, none⟩ = some (.bool h.shares) := q1.cell rfl
  have p1 := hz.lt
  have p2 := H.sv.lt
  have p3 := H.lr.lt
  have p4 := q1.lt
  have ntn : (t : Int) < m.ths.length := by omega

  rw [hal] at u1
  clear H hh q1 q2 q3 hz
  go_enter Try.func46, Try.ntmps46
  go_wp2_with fail
  go_ret
  exact ⟨rfl, (Below.refl _ _).alloc (Nat.le_refl _) _⟩
set_option maxRecDepth 100000 in
set_option maxHeartbeats 1000000 in
theorem mk122_2 (H : MM W B M m) (hh : m.ths[t]? = some h) (hkd : (m.kd != 7) = false) (hal : h.alone = false) (hsh : h.shares = true) (v : Mo) : Calls Try.prog 46 #[.int .i64 t, moV v, .pointer (some ⟨M.cv, 0, none⟩), .pointer (some ⟨M.sv, 0, none⟩)] W (MkR W M t (none)) := by
  obtain ⟨z, hz⟩ := H.cv
  have htn : t < m.ths.length := (List.getElem?_eq_some_iff.1 hh).1
  obtain ⟨q1, q2, q3, q4, q5⟩ := H.ts t h hh
  have c1 : W.cell? ⟨M.cv, 1, none⟩ = some (.int .i64 m.kd) := hz.cell rfl
  have v0 : W.cell? ⟨M.sv, 0, none⟩ = some (.slice (some ⟨M.lg, 0, none⟩) m.ths.length m.ths.length) := H.sv.cell rfl
  have l0 : W.cell? ⟨M.lg, t, none⟩ = some (.pointer (some ⟨M.ls t, 0, none⟩)) := H.lr.cell (by rw [List.getElem?_map, List.getElem?_range htn]; rfl)
  have u1 : W.cell? ⟨M.ls t, 1, none⟩ = some (.bool h.alone) := q1.cell rfl
  have u2 : W.cell? ⟨M.ls t, 2, none⟩ = some (.bool h.shares) := q1.cell rfl
  have p1 := hz.lt
  have p2 := H.sv.lt
  have p3 := H.lr.lt
  have p4 := q1.lt
  have ntn : (t : Int) < m.ths.length := by omega

  rw [hal] at u1
  rw [hsh] at u2
  clear H hh q1 q2 q3 hz
  go_enter Try.func46, Try.ntmps46
  go_wp2_with fail
  go_ret
  exact ⟨rfl, (Below.refl _ _).alloc (Nat.le_refl _) _⟩
set_option maxRecDepth 100000 in
set_option maxHeartbeats 1000000 in
theorem mk122_3 (H : MM W B M m) (hh : m.ths[t]? = some h) (hkd : (m.kd != 7) = false) (hal : h.alone = false) (hsh : h.shares = false) (v : Mo) : Calls Try.prog 46 #[.int .i64 t, moV v, .pointer (some ⟨M.cv, 0, none⟩), .pointer (some ⟨M.sv, 0, none⟩)] W (MkR W M t (some (.shr 1 0 false))) := by
  obtain ⟨z, hz⟩ := H.cv
  have htn : t < m.ths.length := (List.getElem?_eq_some_iff.1 hh).1
  obtain ⟨q1, q2, q3, q4, q5⟩ := H.ts t h hh
  have c1 : W.cell? ⟨M.cv, 1, none⟩ = some (.int .i64 m.kd) := hz.cell rfl
  have v0 : W.cell? ⟨M.sv, 0, none⟩ = some (.slice (some ⟨M.lg, 0, none⟩) m.ths.length m.ths.length) := H.sv.cell rfl
  have l0 : W.cell? ⟨M.lg, t, none⟩ = some (.pointer (some ⟨M.ls t, 0, none⟩)) := H.lr.cell (by rw [List.getElem?_map, List.getElem?_range htn]; rfl)
  have u1 : W.cell? ⟨M.ls t, 1, none⟩ = some (.bool h.alone) := q1.cell rfl
  have u2 : W.cell? ⟨M.ls t, 2, none⟩ = some (.bool h.shares) := q1.cell rfl
  have p1 := hz.lt
  have p2 := H.sv.lt
  have p3 := H.lr.lt
  have p4 := q1.lt
  have ntn : (t : Int) < m.ths.length := by omega

  rw [hal] at u1
  rw [hsh] at u2
  clear H hh q1 q2 q3 hz
  go_enter Try.func46, Try.ntmps46
  go_wp2_with fail
  go_ret
  exact ⟨_, rfl, new1_blk _ _ _ _, by simp, ((Below.refl _ _).alloc (Nat.le_refl _) _).alloc (by simp) _⟩
set_option maxRecDepth 100000 in
set_option maxHeartbeats 1000000 in
theorem mk123_0 (H : MM W B M m) (hh : m.ths[t]? = some h) (hsh : h.shares = true) (v : Mo) : Calls Try.prog 47 #[.int .i64 t, moV v, .pointer (some ⟨M.sv, 0, none⟩)] W (MkR W M t (some (.shr (-1) 0 false))) := by
  obtain ⟨z, hz⟩ := H.cv
  have htn : t < m.ths.length := (List.getElem?_eq_some_iff.1 hh).1
  obtain ⟨q1, q2, q3, q4, q5⟩ := H.ts t h hh
  have c1 : W.cell? ⟨M.cv, 1, none⟩ = some (.int .i64 m.kd) := hz.cell rfl
  have v0 : W.cell? ⟨M.sv, 0, none⟩ = some (.slice (some ⟨M.lg, 0, none⟩) m.ths.length m.ths.length) := H.sv.cell rfl
  have l0 : W.cell? ⟨M.lg, t, none⟩ = some (.pointer (some ⟨M.ls t, 0, none⟩)) := H.lr.cell (by rw [List.getElem?_map, List.getElem?_range htn]; rfl)
  have u1 : W.cell? ⟨M.ls t, 1, none⟩ = some (.bool h.alone) := q1.cell rfl
  have u2 : W.cell? ⟨M.ls t, 2, none⟩ = some (.bool h.shares) := q1.cell rfl
  have p1 := hz.lt
  have p2 := H.sv.lt
  have p3 := H.lr.lt
  have p4 := q1.lt
  have ntn : (t : Int) < m.ths.length := by omega
  rw [hsh] at u2
  clear H hh q1 q2 q3 hz
  go_enter Try.func47, Try.ntmps47
  go_wp2_with fail
  go_ret
  exact ⟨_, rfl, new1_blk _ _ _ _, by simp, ((Below.refl _ _).alloc (Nat.le_refl _) _).alloc (by simp) _⟩
set_option maxRecDepth 100000 in
set_option maxHeartbeats 1000000 in
theorem mk123_1 (H : MM W B M m) (hh : m.ths[t]? = some h) (hsh : h.shares = false) (v : Mo) : Calls Try.prog 47 #[.int .i64 t, moV v, .pointer (some ⟨M.sv, 0, none⟩)] W (MkR W M t (none)) := by
  obtain ⟨z, hz⟩ := H.cv
  have htn : t < m.ths.length := (List.getElem?_eq_some_iff.1 hh).1
  obtain ⟨q1, q2, q3, q4, q5⟩ := H.ts t h hh
  have c1 : W.cell? ⟨M.cv, 1, none⟩ = some (.int .i64 m.kd) := hz.cell rfl
  have v0 : W.cell? ⟨M.sv, 0, none⟩ = some (.slice (some ⟨M.lg, 0, none⟩) m.ths.length m.ths.length) := H.sv.cell rfl
  have l0 : W.cell? ⟨M.lg, t, none⟩ = some (.pointer (some ⟨M.ls t, 0, none⟩)) := H.lr.cell (by rw [List.getElem?_map, List.getElem?_range htn]; rfl)
  have u1 : W.cell? ⟨M.ls t, 1, none⟩ = some (.bool h.alone) := q1.cell rfl
  have u2 : W.cell? ⟨M.ls t, 2, none⟩ = some (.bool h.shares) := q1.cell rfl
  have p1 := hz.lt
  have p2 := H.sv.lt
  have p3 := H.lr.lt
  have p4 := q1.lt
  have ntn : (t : Int) < m.ths.length := by omega
  rw [hsh] at u2
  clear H hh q1 q2 q3 hz
  go_enter Try.func47, Try.ntmps47
  go_wp2_with fail
  go_ret
  exact ⟨rfl, (Below.refl _ _).alloc (Nat.le_refl _) _⟩
set_option maxRecDepth 100000 in
set_option maxHeartbeats 1000000 in
theorem mk124_0 (H : MM W B M m) (hh : m.ths[t]? = some h) (hal : h.alone = true) (v : Mo) : Calls Try.prog 48 #[.int .i64 t, moV v, .pointer (some ⟨M.sv, 0, none⟩)] W (MkR W M t (some (.tch 0 false))) := by
  obtain ⟨z, hz⟩ := H.cv
  have htn : t < m.ths.length := (List.getElem?_eq_some_iff.1 hh).1
  obtain ⟨q1, q2, q3, q4, q5⟩ := H.ts t h hh
  have c1 : W.cell? ⟨M.cv, 1, none⟩ = some (.int .i64 m.kd) := hz.cell rfl
  have v0 : W.cell? ⟨M.sv, 0, none⟩ = some (.slice (some ⟨M.lg, 0, none⟩) m.ths.length m.ths.length) := H.sv.cell rfl
  have l0 : W.cell? ⟨M.lg, t, none⟩ = some (.pointer (some ⟨M.ls t, 0, none⟩)) := H.lr.cell (by rw [List.getElem?_map, List.getElem?_range htn]; rfl)
  have u1 : W.cell? ⟨M.ls t, 1, none⟩ = some (.bool h.alone) := q1.cell rfl
  have u2 : W.cell? ⟨M.ls t, 2, none⟩ = some (.bool h.shares) := q1.cell rfl
  have p1 := hz.lt
  have p2 := H.sv.lt
  have p3 := H.lr.lt
  have p4 := q1.lt
  have ntn : (t : Int) < m.ths.length := by omega
  rw [hal] at u1
  clear H hh q1 q2 q3 hz
  go_enter Try.func48, Try.ntmps48
  go_wp2_with fail
  go_ret
  exact ⟨_, rfl, new1_blk _ _ _ _, by simp, ((Below.refl _ _).alloc (Nat.le_refl _) _).alloc (by simp) _⟩
set_option maxRecDepth 100000 in
set_option maxHeartbeats 1000000 in
theorem mk124_1 (H : MM W B M m) (hh : m.ths[t]? = some h) (hal : h.alone = false) (v : Mo) : Calls Try.prog 48 #[.int .i64 t, moV v, .pointer (some ⟨M.sv, 0, none⟩)] W (MkR W M t (none)) := by
  obtain ⟨z, hz⟩ := H.cv
  have htn : t < m.ths.length := (List.getElem?_eq_some_iff.1 hh).1
  obtain ⟨q1, q2, q3, q4, q5⟩ := H.ts t h hh
  have c1 : W.cell? ⟨M.cv, 1, none⟩ = some (.int .i64 m.kd) := hz.cell rfl
  have v0 : W.cell? ⟨M.sv, 0, none⟩ = some (.slice (some ⟨M.lg, 0, none⟩) m.ths.length m.ths.length) := H.sv.cell rfl
  have l0 : W.cell? ⟨M.lg, t, none⟩ = some (.pointer (some ⟨M.ls t, 0, none⟩)) := H.lr.cell (by rw [List.getElem?_map, List.getElem?_range htn]; rfl)
  have u1 : W.cell? ⟨M.ls t, 1, none⟩ = some (.bool h.alone) := q1.cell rfl
  have u2 : W.cell? ⟨M.ls t, 2, none⟩ = some (.bool h.shares) := q1.cell rfl
  have p1 := hz.lt
  have p2 := H.sv.lt
  have p3 := H.lr.lt
  have p4 := q1.lt
  have ntn : (t : Int) < m.ths.length := by omega
  rw [hal] at u1
  clear H hh q1 q2 q3 hz
  go_enter Try.func48, Try.ntmps48
  go_wp2_with fail
  go_ret
  exact ⟨rfl, (Below.refl _ _).alloc (Nat.le_refl _) _⟩
end
end Go.Proofs.Ytjnmlgfkiebkgaa
