/-
  console.entries, byWord, byOp, Op and Word by their tables.
-/
import Derived.Test.YtgbopmgeicokoaaProg
import Derived.Test.YtgbopmgeicokoaaBase
namespace Go.Proofs.Ytgbopmgeicokoaa
open Go.RowKit

/-- a kind's ops: number, word, how many arguments -/
def tab (k : Int) : List (Int × List UInt8 × Int) :=
  if k = 1 then [(10, [116, 97, 107, 101], 0), (11, [103, 105, 118, 101], 1), (12, [102, 108, 117, 115, 104], 0), (20, [114, 101, 103, 105, 115, 116, 101, 114], 0),
    (21, [117, 110, 114, 101, 103, 105, 115, 116, 101, 114], 0), (22, [112, 111, 115, 116], 1), (23, [114, 101, 97, 100], 1), (24, [99, 108, 101, 97, 114], 1), (25, [115, 99, 97, 110], 0),
    (30, [112, 117, 115, 104], 1), (31, [112, 111, 112], 0), (40, [101, 110, 113, 117, 101, 117, 101], 1), (41, [100, 101, 113, 117, 101, 117, 101], 0), (50, [105, 110, 115, 101, 114, 116], 1),
    (51, [100, 101, 108, 101, 116, 101], 1), (52, [99, 111, 110, 116, 97, 105, 110, 115], 1), (60, [97, 100, 100], 2), (61, [114, 101, 109, 111, 118, 101], 1), (62, [103, 101, 116], 1)]
  else if k = 2 then [(80, [112, 105, 110], 0), (81, [117, 110, 112, 105, 110], 0), (82, [115, 116, 111, 119], 1), (83, [100, 114, 97, 119], 0), (84, [97, 100, 118, 97, 110, 99, 101], 0), (85, [99, 111, 108, 108, 101, 99, 116], 0)]
  else if k = 3 then [(100, [112, 117, 116], 1), (101, [112, 105, 99, 107], 0)]
  else if k = 4 then [(90, [112, 117, 115, 104], 1), (91, [116, 97, 107, 101], 0), (92, [115, 116, 101, 97, 108], 0)]
  else if k = 5 then [(120, [97, 99, 113, 117, 105, 114, 101], 0), (121, [114, 101, 108, 101, 97, 115, 101], 0), (122, [115, 104, 97, 114, 101], 0), (123, [117, 110, 115, 104, 97, 114, 101], 0), (124, [116, 111, 117, 99, 104], 0)]
  else if k = 6 then [(140, [98, 101, 103, 105, 110], 0), (141, [114, 101, 97, 100], 1), (142, [119, 114, 105, 116, 101], 2), (143, [99, 111, 109, 109, 105, 116], 0), (144, [97, 98, 111, 114, 116], 0)]
  else []

def vals (l : List (Int × List UInt8 × Int)) : List Value := l.flatMap fun x => [.int .i64 x.1, .string ⟨x.2.1.toArray⟩, .int .i64 x.2.2]

theorem vals_len (l : List (Int × List UInt8 × Int)) : (vals l).length = l.length * 3 := by
  induction l with
  | nil => rfl
  | cons a l ih => simp only [vals, List.flatMap_cons, List.length_append, List.length_cons, List.length_nil] at ih ⊢; omega

theorem vals_get (l : List (Int × List UInt8 × Int)) (k : Nat) (x : Int × List UInt8 × Int) (h : l[k]? = some x) :
    (vals l)[k * 3]? = some (.int .i64 x.1) ∧ (vals l)[k * 3 + 1]? = some (.string ⟨x.2.1.toArray⟩) ∧ (vals l)[k * 3 + 2]? = some (.int .i64 x.2.2) := by
  induction l generalizing k with
  | nil => simp at h
  | cons a l ih =>
    cases k with
    | zero => simp at h; subst h; simp [vals]
    | succ k =>
      have := ih k (by simpa using h)
      have e : vals (a :: l) = [.int .i64 a.1, .string ⟨a.2.1.toArray⟩, .int .i64 a.2.2] ++ vals l := rfl
      rw [e]
      refine ⟨?_, ?_, ?_⟩
      · rw [List.getElem?_append_right (by simp; omega)]; rw [← this.1]; congr 1; simp; omega
      · rw [List.getElem?_append_right (by simp; omega)]; rw [← this.2.1]; congr 1; simp; omega
      · rw [List.getElem?_append_right (by simp; omega)]; rw [← this.2.2]; congr 1; simp; omega

def Ents (w : World) (k : Int) (e : Ending) (w' : World) : Prop :=
  ∃ A c, e = .returned (.slice A (tab k).length c) ∧ Sl w' w'.heap.size 3 A (tab k).length (vals (tab k)) ∧ Below w.heap.size w w'

theorem Ents.mk (w : World) (k : Int) (n : Nat) (cs : Array Value) (t : TypeId) (hn : n = (tab k).length) (hcs : cs = (vals (tab k)).toArray) :
    Ents w k (.returned (.slice (some ⟨w.heap.size, 0, none⟩) n n)) (w.alloc (.cells cs t)) := by
  subst hn; subst hcs
  refine ⟨_, _, rfl, ?_, (Below.refl _ _).alloc (Nat.le_refl _) _⟩
  rw [World.size_alloc]
  exact Sl.new w _ t (vals_len _)

set_option maxRecDepth 100000 in
set_option maxHeartbeats 1000000 in
theorem entries_1 (w : World) : Calls Try.prog 102 #[.int .i64 1] w (Ents w 1) := by
  go_enter Try.func102, Try.ntmps102
  go_wp2
  go_ret
  exact Ents.mk w 1 _ _ _ rfl rfl
set_option maxRecDepth 100000 in
theorem entries_2 (w : World) : Calls Try.prog 102 #[.int .i64 2] w (Ents w 2) := by
  go_enter Try.func102, Try.ntmps102
  go_wp2
  go_ret
  exact Ents.mk w 2 _ _ _ rfl rfl
set_option maxRecDepth 100000 in
theorem entries_3 (w : World) : Calls Try.prog 102 #[.int .i64 3] w (Ents w 3) := by
  go_enter Try.func102, Try.ntmps102
  go_wp2
  go_ret
  exact Ents.mk w 3 _ _ _ rfl rfl
set_option maxRecDepth 100000 in
theorem entries_4 (w : World) : Calls Try.prog 102 #[.int .i64 4] w (Ents w 4) := by
  go_enter Try.func102, Try.ntmps102
  go_wp2
  go_ret
  exact Ents.mk w 4 _ _ _ rfl rfl
set_option maxRecDepth 100000 in
theorem entries_5 (w : World) : Calls Try.prog 102 #[.int .i64 5] w (Ents w 5) := by
  go_enter Try.func102, Try.ntmps102
  go_wp2
  go_ret
  exact Ents.mk w 5 _ _ _ rfl rfl
set_option maxRecDepth 100000 in
theorem entries_6 (w : World) : Calls Try.prog 102 #[.int .i64 6] w (Ents w 6) := by
  go_enter Try.func102, Try.ntmps102
  go_wp2
  go_ret
  exact Ents.mk w 6 _ _ _ rfl rfl
theorem tab_else {k : Int} (h : k < 1 ∨ 6 < k) : tab k = [] := by
  unfold tab
  repeat rw [if_neg (by omega)]
set_option maxRecDepth 100000 in
theorem entries_else (k : Int) (w : World) (h : k < 1 ∨ 6 < k) : Calls Try.prog 102 #[.int .i64 k] w (Ents w k) := by
  have h1 : (k == 1) = false := beq_eq_false_iff_ne.2 (by omega)
  have h2 : (k == 2) = false := beq_eq_false_iff_ne.2 (by omega)
  have h3 : (k == 3) = false := beq_eq_false_iff_ne.2 (by omega)
  have h4 : (k == 4) = false := beq_eq_false_iff_ne.2 (by omega)
  have h5 : (k == 5) = false := beq_eq_false_iff_ne.2 (by omega)
  have h6 : (k == 6) = false := beq_eq_false_iff_ne.2 (by omega)
  have H := Lib.hid (tab_else h)
  clear h
  go_enter Try.func102, Try.ntmps102
  go_wp2
  go_ret
  refine ⟨none, 0, ?_, ?_, Below.refl _ _⟩
  · rw [H.out]; rfl
  · rw [H.out]; exact Sl.nil
theorem entries_any (k : Int) (w : World) : Calls Try.prog 102 #[.int .i64 k] w (Ents w k) := by
  by_cases h1 : k = 1
  · subst h1; exact entries_1 w
  by_cases h2 : k = 2
  · subst h2; exact entries_2 w
  by_cases h3 : k = 3
  · subst h3; exact entries_3 w
  by_cases h4 : k = 4
  · subst h4; exact entries_4 w
  by_cases h5 : k = 5
  · subst h5; exact entries_5 w
  by_cases h6 : k = 6
  · subst h6; exact entries_6 w
  exact entries_else k w (by omega)
end Go.Proofs.Ytgbopmgeicokoaa
