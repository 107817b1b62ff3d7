/-
  ConsoleWords: the law's walk.
-/
import Derived.Test.YtgbopmgeicokoaaRop
namespace Go.Proofs.Ytgbopmgeicokoaa
open Go.RowKit

def tabOk (k : Int) : Bool := (tab k).all (fun x => decide (1 ≤ x.1) && decide (x.1 < 200) && !x.2.1.isEmpty && (wordOf k x.1 == x.2.1) && (tab k).all (fun y => !(x.2.1 == y.2.1) || x == y))
theorem tabOk_any (k : Int) : tabOk k = true := by
  by_cases h1 : k = 1
  · subst h1; decide +kernel
  by_cases h2 : k = 2
  · subst h2; decide +kernel
  by_cases h3 : k = 3
  · subst h3; decide +kernel
  by_cases h4 : k = 4
  · subst h4; decide +kernel
  by_cases h5 : k = 5
  · subst h5; decide +kernel
  by_cases h6 : k = 6
  · subst h6; decide +kernel
  unfold tabOk
  rw [tab_else (by omega)]
  rfl
theorem tab_facts {k : Int} {x : Int × List UInt8 × Int} (hx : x ∈ tab k) : 1 ≤ x.1 ∧ x.1 < 200 ∧ x.2.1 ≠ [] ∧ wordOf k x.1 = x.2.1 ∧ ∀ y ∈ tab k, x.2.1 = y.2.1 → x = y := by
  have h := tabOk_any k
  unfold tabOk at h
  rw [List.all_eq_true] at h
  have h := h x hx
  simp only [Bool.and_eq_true, decide_eq_true_eq, Bool.not_eq_true', List.all_eq_true, Bool.or_eq_true, beq_iff_eq, beq_eq_false_iff_ne] at h
  obtain ⟨⟨⟨⟨h1, h2⟩, h3⟩, h4⟩, h5⟩ := h
  exact ⟨h1, h2, by simpa using h3, h4, fun y hy he => (h5 y hy).resolve_left (fun hn => hn he)⟩

theorem rop_none {k : Int} {s : ByteArray} (h : (tab k).find? (fun x => x.2.1 == s.toList) = none) (w : World) :
    Calls Try.prog 13 #[.int .i64 k, .string s] w fun e w' => e = .returned (.int .i64 (-1)) ∧ Below w.heap.size w w' := by
  refine (rop_any k s w).mono fun e w' ⟨r, he, hb, hr⟩ => ⟨?_, hb⟩
  rcases hr with ⟨rfl, _⟩ | ⟨h1, h2, h3⟩
  · exact he
  · exfalso
    unfold hit wordOf at h3
    cases hf : (tab k).find? (fun x => x.1 == r) with
    | none => rw [hf] at h3; simp [wdOf] at h3
    | some y =>
      rw [hf] at h3
      have hy := List.mem_of_find?_eq_some hf
      rw [List.find?_eq_none] at h
      have := h y hy
      simp [wdOf] at h3 this
      exact this h3.2
theorem rop_some {k : Int} {s : ByteArray} {x : Int × List UInt8 × Int} (h : (tab k).find? (fun x => x.2.1 == s.toList) = some x) (w : World) :
    Calls Try.prog 13 #[.int .i64 k, .string s] w fun e w' => e = .returned (.int .i64 x.1) ∧ Below w.heap.size w w' := by
  refine (rop_any k s w).mono fun e w' ⟨r, he, hb, hr⟩ => ⟨?_, hb⟩
  have hx := List.mem_of_find?_eq_some h
  have hs := List.find?_some h
  obtain ⟨a1, a2, a3, a4, a5⟩ := tab_facts hx
  have hs' : x.2.1 = s.toList := by simpa using hs
  rcases hr with ⟨rfl, hn⟩ | ⟨h1, h2, h3⟩
  · exfalso
    have := hn x.1 a1 a2
    unfold hit at this
    rw [a4, hs'] at this
    rw [hs'] at a3
    simp at this
    exact a3 this
  · unfold hit wordOf at h3
    cases hf : (tab k).find? (fun x => x.1 == r) with
    | none => rw [hf] at h3; simp [wdOf] at h3
    | some y =>
      rw [hf] at h3
      have hy := List.mem_of_find?_eq_some hf
      have hy1 : y.1 = r := by simpa using List.find?_some hf
      simp [wdOf] at h3
      have := a5 y hy (hs'.trans h3.2.symm)
      rw [this, hy1]; exact he

theorem op_none {k : Int} {s : ByteArray} (h : (tab k).find? (fun x => x.2.1 == s.toList) = none) (w : World) :
    Calls Try.prog 12 #[.int .i64 k, .string s] w fun e w' => e = .returned (.tuple #[.int .i64 0, .bool false]) ∧ Below w.heap.size w w' :=
  (op_any k s w).mono fun e w' ⟨he, hb⟩ => ⟨by rw [he, h]; rfl, hb⟩
theorem op_some {k : Int} {s : ByteArray} {x : Int × List UInt8 × Int} (h : (tab k).find? (fun x => x.2.1 == s.toList) = some x) (w : World) :
    Calls Try.prog 12 #[.int .i64 k, .string s] w fun e w' => e = .returned (.tuple #[.int .i64 x.1, .bool true]) ∧ Below w.heap.size w w' :=
  (op_any k s w).mono fun e w' ⟨he, hb⟩ => ⟨by rw [he, h]; rfl, hb⟩
theorem op_steal (w : World) :
    Calls Try.prog 12 #[.int .i64 4, .string ⟨#[115, 116, 101, 97, 108]⟩] w fun e w' => e = .returned (.tuple #[.int .i64 92, .bool true]) ∧ Below w.heap.size w w' :=
  op_some (x := (92, [115, 116, 101, 97, 108], 0)) (by simp [tab]) w
theorem word_commit (w : World) :
    Calls Try.prog 14 #[.int .i64 6, .int .i64 143] w fun e w' => e = .returned (.string ⟨#[99, 111, 109, 109, 105, 116]⟩) ∧ Below w.heap.size w w' :=
  word_any 6 143 w

set_option maxHeartbeats 1000000 in
theorem law_words (k op : Int) (s : ByteArray) (w : World) :
    Calls Try.prog 3 #[.int .i64 k, .int .i64 op, .string s] w fun e w' => e = .returned (.bool true) ∧ Below w.heap.size w w' := by
  cases hr : (tab k).find? (fun x => x.2.1 == s.toList) with
  | none =>
    have H := Lib.hid hr
    clear hr
    go_enter Try.func3, Try.ntmps3
    go_wp2_with fail
    refine (op_none H.out _).mono ?_; rintro e w1 ⟨rfl, hb1⟩
    go_wp2_with fail
    refine (rop_none H.out _).mono ?_; rintro e w2 ⟨rfl, hb2⟩
    go_wp2_with fail
    refine (op_steal _).mono ?_; rintro e w3 ⟨rfl, hb3⟩
    go_wp2_with fail
    refine (word_any k op _).mono ?_; rintro e w4 ⟨rfl, hb4⟩
    go_wp2_with fail
    refine (rword_any k op _).mono ?_; rintro e w5 ⟨rfl, hb5⟩
    go_wp2_with fail
    refine (word_commit _).mono ?_; rintro e w6 ⟨rfl, hb6⟩
    go_wp2_with fail
    go_ret
    exact ⟨rfl, ((((hb1.trans (hb2.mono hb1.size)).trans (hb3.mono (Nat.le_trans hb1.size hb2.size))).trans (hb4.mono (by have := hb1.size; have := hb2.size; have := hb3.size; omega))).trans (hb5.mono (by have := hb1.size; have := hb2.size; have := hb3.size; have := hb4.size; omega))).trans (hb6.mono (by have := hb1.size; have := hb2.size; have := hb3.size; have := hb4.size; have := hb5.size; omega))⟩
  | some x =>
    have hx := tab_facts (List.mem_of_find?_eq_some hr)
    have hp : 1 ≤ x.1 := hx.1
    have hq : x.1 < 200 := hx.2.1
    have H := Lib.hid hr
    clear hr hx
    go_enter Try.func3, Try.ntmps3
    go_wp2_with fail
    refine (op_some H.out _).mono ?_; rintro e w1 ⟨rfl, hb1⟩
    go_wp2_with fail
    refine (rop_some H.out _).mono ?_; rintro e w2 ⟨rfl, hb2⟩
    go_wp2_with fail
    refine (op_steal _).mono ?_; rintro e w3 ⟨rfl, hb3⟩
    go_wp2_with fail
    refine (word_any k op _).mono ?_; rintro e w4 ⟨rfl, hb4⟩
    go_wp2_with fail
    refine (rword_any k op _).mono ?_; rintro e w5 ⟨rfl, hb5⟩
    go_wp2_with fail
    refine (word_commit _).mono ?_; rintro e w6 ⟨rfl, hb6⟩
    go_wp2_with fail
    go_ret
    exact ⟨rfl, ((((hb1.trans (hb2.mono hb1.size)).trans (hb3.mono (Nat.le_trans hb1.size hb2.size))).trans (hb4.mono (by have := hb1.size; have := hb2.size; have := hb3.size; omega))).trans (hb5.mono (by have := hb1.size; have := hb2.size; have := hb3.size; have := hb4.size; omega))).trans (hb6.mono (by have := hb1.size; have := hb2.size; have := hb3.size; have := hb4.size; have := hb5.size; omega))⟩
end Go.Proofs.Ytgbopmgeicokoaa
