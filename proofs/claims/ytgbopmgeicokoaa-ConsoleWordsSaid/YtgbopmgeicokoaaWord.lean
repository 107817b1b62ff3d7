/-
  console.Op and Word, reclaimref28.Word and Op, by the tables.
-/
import Derived.Test.YtgbopmgeicokoaaByw
namespace Go.Proofs.Ytgbopmgeicokoaa
open Go.RowKit

def opOf : Option (Int × List UInt8 × Int) → Int
  | some x => x.1
  | none => 0
def wdOf : Option (Int × List UInt8 × Int) → List UInt8
  | some x => x.2.1
  | none => []
/-- an op's word -/
def wordOf (k op : Int) : List UInt8 := wdOf ((tab k).find? fun x => x.1 == op)

theorem byWord_some {k : Int} {s : ByteArray} {x : Int × List UInt8 × Int} (h : (tab k).find? (fun x => x.2.1 == s.toList) = some x) (w : World) :
    Calls Try.prog 51 #[.int .i64 k, .string s] w fun e w' => e = .returned (.tuple #[.agg #[.int .i64 x.1, .string ⟨x.2.1.toArray⟩, .int .i64 x.2.2], .bool true]) ∧ Below w.heap.size w w' :=
  (byWord_any k s w).mono fun e w' ⟨he, hb⟩ => ⟨by rw [he, h]; rfl, hb⟩
theorem byWord_none {k : Int} {s : ByteArray} (h : (tab k).find? (fun x => x.2.1 == s.toList) = none) (w : World) :
    Calls Try.prog 51 #[.int .i64 k, .string s] w fun e w' => e = .returned (.tuple #[.agg #[.int .i64 0, .string ⟨#[]⟩, .int .i64 0], .bool false]) ∧ Below w.heap.size w w' :=
  (byWord_any k s w).mono fun e w' ⟨he, hb⟩ => ⟨by rw [he, h]; rfl, hb⟩
theorem byOp_some {k q : Int} {x : Int × List UInt8 × Int} (h : (tab k).find? (fun x => x.1 == q) = some x) (w : World) :
    Calls Try.prog 52 #[.int .i64 k, .int .i64 q] w fun e w' => e = .returned (.tuple #[.agg #[.int .i64 x.1, .string ⟨x.2.1.toArray⟩, .int .i64 x.2.2], .bool true]) ∧ Below w.heap.size w w' :=
  (byOp_any k q w).mono fun e w' ⟨he, hb⟩ => ⟨by rw [he, h]; rfl, hb⟩
theorem byOp_none {k q : Int} (h : (tab k).find? (fun x => x.1 == q) = none) (w : World) :
    Calls Try.prog 52 #[.int .i64 k, .int .i64 q] w fun e w' => e = .returned (.tuple #[.agg #[.int .i64 0, .string ⟨#[]⟩, .int .i64 0], .bool false]) ∧ Below w.heap.size w w' :=
  (byOp_any k q w).mono fun e w' ⟨he, hb⟩ => ⟨by rw [he, h]; rfl, hb⟩

theorem op_any (k : Int) (s : ByteArray) (w : World) :
    Calls Try.prog 12 #[.int .i64 k, .string s] w fun e w' =>
      e = .returned (.tuple #[.int .i64 (opOf ((tab k).find? fun x => x.2.1 == s.toList)), .bool ((tab k).find? fun x => x.2.1 == s.toList).isSome]) ∧ Below w.heap.size w w' := by
  cases hr : (tab k).find? (fun x => x.2.1 == s.toList) with
  | none =>
    have H := Lib.hid hr
    clear hr
    go_enter Try.func12, Try.ntmps12
    go_wp2_with (go_at_call 51; refine (byWord_none H.out _).mono ?_; rintro e w1 ⟨rfl, hb⟩)
    go_ret2
    exact ⟨rfl, hb.alloc hb.size _⟩
  | some x =>
    have H := Lib.hid hr
    clear hr
    go_enter Try.func12, Try.ntmps12
    go_wp2_with (go_at_call 51; refine (byWord_some H.out _).mono ?_; rintro e w1 ⟨rfl, hb⟩)
    go_ret2
    exact ⟨rfl, hb.alloc hb.size _⟩
theorem word_any (k op : Int) (w : World) :
    Calls Try.prog 14 #[.int .i64 k, .int .i64 op] w fun e w' => e = .returned (.string ⟨(wordOf k op).toArray⟩) ∧ Below w.heap.size w w' := by
  unfold wordOf
  cases hr : (tab k).find? (fun x => x.1 == op) with
  | none =>
    have H := Lib.hid hr
    clear hr
    go_enter Try.func14, Try.ntmps14
    go_wp2_with (go_at_call 52; refine (byOp_none H.out _).mono ?_; rintro e w1 ⟨rfl, hb⟩)
    go_ret
    exact ⟨rfl, hb.alloc hb.size _⟩
  | some x =>
    have H := Lib.hid hr
    clear hr
    go_enter Try.func14, Try.ntmps14
    go_wp2_with (go_at_call 52; refine (byOp_some H.out _).mono ?_; rintro e w1 ⟨rfl, hb⟩)
    go_ret
    exact ⟨rfl, hb.alloc hb.size _⟩

theorem word_no {k op : Int} (h : ∀ x ∈ tab k, x.1 ≠ op) : wordOf k op = [] := by
  unfold wordOf
  rw [List.find?_eq_none.2 (fun x hx => by simpa using h x hx)]
  rfl
theorem ret_str {a b : List UInt8} (h : a = b) : Ending.returned (.string ⟨a.toArray⟩) = .returned (.string ⟨b.toArray⟩) := by rw [h]

set_option maxHeartbeats 1000000 in
theorem word17_any (op : Int) (h : 2 < op) (w : World) :
    Calls Try.prog 53 #[.int .i64 op] w fun e w' => e = .returned (.string ⟨(wordOf 1 op).toArray⟩) ∧ w = w' := by
  have h1 : (op == 1) = false := beq_eq_false_iff_ne.2 (by omega)
  have h2 : (op == 2) = false := beq_eq_false_iff_ne.2 (by omega)
  clear h
  go_enter Try.func53, Try.ntmps53
  go_wp2
  all_goals go_ret
  all_goals refine ⟨?_, rfl⟩
  all_goals show Ending.returned (.string _) = _
  all_goals simp only [beq_iff_eq, beq_eq_false_iff_ne] at *
  all_goals first
    | (subst op; rfl)
    | (rw [word_no (fun x hx => by
         simp only [tab, if_true, List.mem_cons, List.not_mem_nil, or_false] at hx
         rcases hx with rfl | rfl | rfl | rfl | rfl | rfl | rfl | rfl | rfl | rfl | rfl | rfl | rfl | rfl | rfl | rfl | rfl | rfl | rfl <;> (show (_ : Int) ≠ op; omega))])

set_option maxHeartbeats 1000000 in
theorem rword_1 (op : Int) (w : World) :
    Calls Try.prog 15 #[.int .i64 1, .int .i64 op] w fun e w' => e = .returned (.string ⟨(wordOf 1 op).toArray⟩) ∧ Below w.heap.size w w' := by
  by_cases h : op ≤ 2
  · have H := Lib.hid (word_no (k := 1) (op := op) (fun x hx => by
         simp only [tab, if_true, List.mem_cons, List.not_mem_nil, or_false] at hx
         rcases hx with rfl | rfl | rfl | rfl | rfl | rfl | rfl | rfl | rfl | rfl | rfl | rfl | rfl | rfl | rfl | rfl | rfl | rfl | rfl <;> (show (_ : Int) ≠ op; omega)))
    go_enter Try.func15, Try.ntmps15
    go_wp2
    go_ret
    exact ⟨by rw [H.out]; rfl, Below.refl _ _⟩
  · have h2 : 2 < op := by omega
    go_enter Try.func15, Try.ntmps15
    go_wp2_with (go_at_call 53; refine (word17_any op h2 _).mono ?_; rintro e w1 ⟨rfl, rfl⟩)
    go_ret
    exact ⟨rfl, Below.refl _ _⟩

theorem rword_2 (op : Int) (w : World) :
    Calls Try.prog 15 #[.int .i64 2, .int .i64 op] w fun e w' => e = .returned (.string ⟨(wordOf 2 op).toArray⟩) ∧ Below w.heap.size w w' := by
  by_cases h : op < 80 ∨ 85 < op
  · have H := Lib.hid (word_no (k := 2) (op := op) (fun x hx => by
         have hx' : x ∈ tab 2 := hx
         simp only [tab, Int.reduceEq, if_true, if_false, List.mem_cons, List.not_mem_nil, or_false] at hx'
         rcases hx' with rfl | rfl | rfl | rfl | rfl | rfl <;> (show (_ : Int) ≠ op; omega)))
    rcases h with h | h
    · go_enter Try.func15, Try.ntmps15
      go_wp2
      go_ret
      exact ⟨by rw [H.out]; rfl, by repeat (first | exact Below.refl _ _ | refine Below.alloc ?_ (by simp) _)⟩
    · go_enter Try.func15, Try.ntmps15
      go_wp2
      go_ret
      exact ⟨by rw [H.out]; rfl, by repeat (first | exact Below.refl _ _ | refine Below.alloc ?_ (by simp) _)⟩
  · have ho : op = 80 ∨ op = 81 ∨ op = 82 ∨ op = 83 ∨ op = 84 ∨ op = 85 := by omega
    clear h
    rcases ho with rfl | rfl | rfl | rfl | rfl | rfl
    all_goals
      go_enter Try.func15, Try.ntmps15
      go_wp2
      go_ret
      exact ⟨rfl, by repeat (first | exact Below.refl _ _ | refine Below.alloc ?_ (by simp) _)⟩

theorem rword_3 (op : Int) (w : World) :
    Calls Try.prog 15 #[.int .i64 3, .int .i64 op] w fun e w' => e = .returned (.string ⟨(wordOf 3 op).toArray⟩) ∧ Below w.heap.size w w' := by
  by_cases h : op < 100 ∨ 101 < op
  · have H := Lib.hid (word_no (k := 3) (op := op) (fun x hx => by
         have hx' : x ∈ tab 3 := hx
         simp only [tab, Int.reduceEq, if_true, if_false, List.mem_cons, List.not_mem_nil, or_false] at hx'
         rcases hx' with rfl | rfl <;> (show (_ : Int) ≠ op; omega)))
    rcases h with h | h
    · go_enter Try.func15, Try.ntmps15
      go_wp2
      go_ret
      exact ⟨by rw [H.out]; rfl, by repeat (first | exact Below.refl _ _ | refine Below.alloc ?_ (by simp) _)⟩
    · go_enter Try.func15, Try.ntmps15
      go_wp2
      go_ret
      exact ⟨by rw [H.out]; rfl, by repeat (first | exact Below.refl _ _ | refine Below.alloc ?_ (by simp) _)⟩
  · have ho : op = 100 ∨ op = 101 := by omega
    clear h
    rcases ho with rfl | rfl
    all_goals
      go_enter Try.func15, Try.ntmps15
      go_wp2
      go_ret
      exact ⟨rfl, by repeat (first | exact Below.refl _ _ | refine Below.alloc ?_ (by simp) _)⟩

theorem rword_4 (op : Int) (w : World) :
    Calls Try.prog 15 #[.int .i64 4, .int .i64 op] w fun e w' => e = .returned (.string ⟨(wordOf 4 op).toArray⟩) ∧ Below w.heap.size w w' := by
  by_cases h : op < 90 ∨ 92 < op
  · have H := Lib.hid (word_no (k := 4) (op := op) (fun x hx => by
         have hx' : x ∈ tab 4 := hx
         simp only [tab, Int.reduceEq, if_true, if_false, List.mem_cons, List.not_mem_nil, or_false] at hx'
         rcases hx' with rfl | rfl | rfl <;> (show (_ : Int) ≠ op; omega)))
    rcases h with h | h
    · go_enter Try.func15, Try.ntmps15
      go_wp2
      go_ret
      exact ⟨by rw [H.out]; rfl, by repeat (first | exact Below.refl _ _ | refine Below.alloc ?_ (by simp) _)⟩
    · go_enter Try.func15, Try.ntmps15
      go_wp2
      go_ret
      exact ⟨by rw [H.out]; rfl, by repeat (first | exact Below.refl _ _ | refine Below.alloc ?_ (by simp) _)⟩
  · have ho : op = 90 ∨ op = 91 ∨ op = 92 := by omega
    clear h
    rcases ho with rfl | rfl | rfl
    all_goals
      go_enter Try.func15, Try.ntmps15
      go_wp2
      go_ret
      exact ⟨rfl, by repeat (first | exact Below.refl _ _ | refine Below.alloc ?_ (by simp) _)⟩

theorem rword_5 (op : Int) (w : World) :
    Calls Try.prog 15 #[.int .i64 5, .int .i64 op] w fun e w' => e = .returned (.string ⟨(wordOf 5 op).toArray⟩) ∧ Below w.heap.size w w' := by
  by_cases h : op < 120 ∨ 124 < op
  · have H := Lib.hid (word_no (k := 5) (op := op) (fun x hx => by
         have hx' : x ∈ tab 5 := hx
         simp only [tab, Int.reduceEq, if_true, if_false, List.mem_cons, List.not_mem_nil, or_false] at hx'
         rcases hx' with rfl | rfl | rfl | rfl | rfl <;> (show (_ : Int) ≠ op; omega)))
    rcases h with h | h
    · go_enter Try.func15, Try.ntmps15
      go_wp2
      go_ret
      exact ⟨by rw [H.out]; rfl, by repeat (first | exact Below.refl _ _ | refine Below.alloc ?_ (by simp) _)⟩
    · go_enter Try.func15, Try.ntmps15
      go_wp2
      go_ret
      exact ⟨by rw [H.out]; rfl, by repeat (first | exact Below.refl _ _ | refine Below.alloc ?_ (by simp) _)⟩
  · have ho : op = 120 ∨ op = 121 ∨ op = 122 ∨ op = 123 ∨ op = 124 := by omega
    clear h
    rcases ho with rfl | rfl | rfl | rfl | rfl
    all_goals
      go_enter Try.func15, Try.ntmps15
      go_wp2
      go_ret
      exact ⟨rfl, by repeat (first | exact Below.refl _ _ | refine Below.alloc ?_ (by simp) _)⟩

theorem rword_6 (op : Int) (w : World) :
    Calls Try.prog 15 #[.int .i64 6, .int .i64 op] w fun e w' => e = .returned (.string ⟨(wordOf 6 op).toArray⟩) ∧ Below w.heap.size w w' := by
  by_cases h : op < 140 ∨ 144 < op
  · have H := Lib.hid (word_no (k := 6) (op := op) (fun x hx => by
         have hx' : x ∈ tab 6 := hx
         simp only [tab, Int.reduceEq, if_true, if_false, List.mem_cons, List.not_mem_nil, or_false] at hx'
         rcases hx' with rfl | rfl | rfl | rfl | rfl <;> (show (_ : Int) ≠ op; omega)))
    rcases h with h | h
    · go_enter Try.func15, Try.ntmps15
      go_wp2
      go_ret
      exact ⟨by rw [H.out]; rfl, by repeat (first | exact Below.refl _ _ | refine Below.alloc ?_ (by simp) _)⟩
    · go_enter Try.func15, Try.ntmps15
      go_wp2
      go_ret
      exact ⟨by rw [H.out]; rfl, by repeat (first | exact Below.refl _ _ | refine Below.alloc ?_ (by simp) _)⟩
  · have ho : op = 140 ∨ op = 141 ∨ op = 142 ∨ op = 143 ∨ op = 144 := by omega
    clear h
    rcases ho with rfl | rfl | rfl | rfl | rfl
    all_goals
      go_enter Try.func15, Try.ntmps15
      go_wp2
      go_ret
      exact ⟨rfl, by repeat (first | exact Below.refl _ _ | refine Below.alloc ?_ (by simp) _)⟩

theorem rword_else (k op : Int) (w : World) (h : k < 1 ∨ 6 < k) :
    Calls Try.prog 15 #[.int .i64 k, .int .i64 op] w fun e w' => e = .returned (.string ⟨(wordOf k op).toArray⟩) ∧ Below w.heap.size w w' := by
  have h1 : (k == 1) = false := beq_eq_false_iff_ne.2 (by omega)
  have h2 : (k == 2) = false := beq_eq_false_iff_ne.2 (by omega)
  have h3 : (k == 3) = false := beq_eq_false_iff_ne.2 (by omega)
  have h4 : (k == 4) = false := beq_eq_false_iff_ne.2 (by omega)
  have h5 : (k == 5) = false := beq_eq_false_iff_ne.2 (by omega)
  have h6 : (k == 6) = false := beq_eq_false_iff_ne.2 (by omega)
  have H := Lib.hid (word_no (k := k) (op := op) (fun x hx => by rw [tab_else h] at hx; cases hx))
  clear h
  by_cases h : op < 0
  · go_enter Try.func15, Try.ntmps15
    go_wp2
    go_ret
    exact ⟨by rw [H.out]; rfl, by repeat (first | exact Below.refl _ _ | refine Below.alloc ?_ (by simp) _)⟩
  · go_enter Try.func15, Try.ntmps15
    go_wp2
    go_ret
    exact ⟨by rw [H.out]; rfl, by repeat (first | exact Below.refl _ _ | refine Below.alloc ?_ (by simp) _)⟩

theorem rword_any (k op : Int) (w : World) :
    Calls Try.prog 15 #[.int .i64 k, .int .i64 op] w fun e w' => e = .returned (.string ⟨(wordOf k op).toArray⟩) ∧ Below w.heap.size w w' := by
  by_cases h1 : k = 1
  · subst h1; exact rword_1 op w
  by_cases h2 : k = 2
  · subst h2; exact rword_2 op w
  by_cases h3 : k = 3
  · subst h3; exact rword_3 op w
  by_cases h4 : k = 4
  · subst h4; exact rword_4 op w
  by_cases h5 : k = 5
  · subst h5; exact rword_5 op w
  by_cases h6 : k = 6
  · subst h6; exact rword_6 op w
  exact rword_else k op w (by omega)
end Go.Proofs.Ytgbopmgeicokoaa
