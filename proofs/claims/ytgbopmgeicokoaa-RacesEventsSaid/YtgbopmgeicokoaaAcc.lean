/-
  api.Access and api.Run as plain data; the clocks of a run by their rules.
-/
import Derived.Test.YtgbopmgeicokoaaCfg
namespace Go.Proofs.Ytgbopmgeicokoaa
open Go.RowKit

structure Acc where
  move : Int
  thread : Int
  kind : Int
  addr : Int
  old : Int
  new : Int
  saw : Int

abbrev accL (a : Acc) : List Value := [.int .i64 a.move, .int .i64 a.thread, .int .i64 a.kind, .int .i64 a.addr, .int .u64 a.old, .int .u64 a.new, .int .u64 a.saw]
abbrev accV (a : Acc) : Value := .agg #[.int .i64 a.move, .int .i64 a.thread, .int .i64 a.kind, .int .i64 a.addr, .int .u64 a.old, .int .u64 a.new, .int .u64 a.saw]
def accVals (l : List Acc) : List Value := l.flatMap accL
theorem accVals_len (l : List Acc) : (accVals l).length = l.length * 7 := by
  induction l with
  | nil => rfl
  | cons a l ih => simp only [accVals, List.flatMap_cons, List.length_append, List.length_cons, List.length_nil] at ih ⊢; omega
theorem accVals_get (l : List Acc) (k : Nat) (x : Acc) (h : l[k]? = some x) (j : Nat) (hj : j < 7) : (accVals l)[k * 7 + j]? = (accL x)[j]? := by
  induction l generalizing k with
  | nil => simp at h
  | cons a l ih =>
    cases k with
    | zero =>
      simp at h
      subst h
      show (accL a ++ accVals l)[0 * 7 + j]? = _
      rw [Nat.zero_mul, Nat.zero_add, List.getElem?_append_left (by simpa using hj)]
    | succ k =>
      have := ih k (by simpa using h)
      show (accL a ++ accVals l)[(k + 1) * 7 + j]? = _
      rw [List.getElem?_append_right (by simp; omega), ← this]
      congr 1
      simp
      omega
/-- the seven cells of an access -/
abbrev AccAt (x : Acc) (b o : Nat) (W : World) : Prop := W.cell? ⟨b, o, none⟩ = some (.int .i64 x.move) ∧ W.cell? ⟨b, o + 1, none⟩ = some (.int .i64 x.thread) ∧ W.cell? ⟨b, o + 2, none⟩ = some (.int .i64 x.kind) ∧ W.cell? ⟨b, o + 3, none⟩ = some (.int .i64 x.addr) ∧
  W.cell? ⟨b, o + 4, none⟩ = some (.int .u64 x.old) ∧ W.cell? ⟨b, o + 5, none⟩ = some (.int .u64 x.new) ∧ W.cell? ⟨b, o + 6, none⟩ = some (.int .u64 x.saw)

/-- A run's value: its four slices; of the trace what it holds. -/
abbrev runV (H : List Value) : Value := .agg H.toArray
structure RunAt (w : World) (B : Nat) (A : Option Addr) (n k : Nat) (tr : List Acc) : Prop where
  trace : Sl w B 7 A n (accVals tr)
  nk : n ≤ k ∧ k ≤ maxLen
theorem RunAt.len {w : World} {B n k : Nat} {A : Option Addr} {tr : List Acc} (h : RunAt w B A n k tr) : tr.length = n := by have := h.trace.1; rw [accVals_len] at this; omega
theorem RunAt.keep {w w' : World} {B n k : Nat} {A : Option Addr} {tr : List Acc} (h : RunAt w B A n k tr) (hb : Below B w w') : RunAt w' B A n k tr := ⟨h.trace.below hb, h.nk⟩
theorem RunAt.at_ {w : World} {B n k : Nat} {A : Option Addr} {tr : List Acc} (h : RunAt w B A n k tr) {j : Nat} {x : Acc} (hx : tr[j]? = some x) : ∃ b o, A = some ⟨b, o, none⟩ ∧ b < B ∧ AccAt x b (o + j * 7) w := by
  have hj : j < n := by rw [← h.len]; exact (List.getElem?_eq_some_iff.1 hx).1
  obtain ⟨b, o, e, hb, hc⟩ := h.trace.2 (by omega)
  refine ⟨b, o, e, hb, ?_, ?_, ?_, ?_, ?_, ?_, ?_⟩
  · exact hc (j * 7 + 0) _ (accVals_get tr j x hx 0 (by omega))
  · rw [Nat.add_assoc]; exact hc (j * 7 + 1) _ (accVals_get tr j x hx 1 (by omega))
  · rw [Nat.add_assoc]; exact hc (j * 7 + 2) _ (accVals_get tr j x hx 2 (by omega))
  · rw [Nat.add_assoc]; exact hc (j * 7 + 3) _ (accVals_get tr j x hx 3 (by omega))
  · rw [Nat.add_assoc]; exact hc (j * 7 + 4) _ (accVals_get tr j x hx 4 (by omega))
  · rw [Nat.add_assoc]; exact hc (j * 7 + 5) _ (accVals_get tr j x hx 5 (by omega))
  · rw [Nat.add_assoc]; exact hc (j * 7 + 6) _ (accVals_get tr j x hx 6 (by omega))

/-- did an access write? -/
def wroteB (a : Acc) : Bool := (a.kind == 2) || ((a.kind == 3) && (a.saw == a.old))
/-- may an access be? -/
def accB (c : Cfg) (a : Acc) : Bool := decide (0 ≤ a.thread) && (decide (a.thread < c.threads) && (decide (1 ≤ a.kind) && (decide (a.kind ≤ 3) && decide (0 ≤ a.addr))))
/-- the error of a run -/
def runErr (c : Cfg) (tr : List Acc) : Int := if okC c then (if tr.all (accB c) then 0 else 270) else 1

/-- A clock, of every thread; zero where there is none. -/
abbrev Clk := Nat → Int
def clkL (n : Nat) (f : Clk) : List Int := (List.range n).map f
def bump (f : Clk) (t : Nat) : Clk := fun k => if k = t then f k + 1 else f k
def maxC (f g : Clk) : Clk := fun k => if f k < g k then g k else f k
/-- the clocks of the threads, and of the words that have one -/
structure CS where
  th : Nat → Clk
  wd : Int → Option Clk
def CS.zero : CS := ⟨fun _ _ => 0, fun _ => none⟩
def mineC (c : Cfg) (s : CS) (a : Acc) : Clk :=
  if plainB c a.addr then bump (s.th a.thread.toNat) a.thread.toNat
  else if a.kind = 2 then bump (s.th a.thread.toNat) a.thread.toNat
  else match s.wd a.addr with
    | none => bump (s.th a.thread.toNat) a.thread.toNat
    | some g => maxC (bump (s.th a.thread.toNat) a.thread.toNat) g
def stepC (c : Cfg) (s : CS) (a : Acc) : CS :=
  ⟨fun t => if t = a.thread.toNat then mineC c s a else s.th t, fun w => if w = a.addr ∧ plainB c a.addr = false ∧ wroteB a = true then some (mineC c s a) else s.wd w⟩
/-- the state behind the first j accesses, and the clocks of these -/
def csAt (c : Cfg) (tr : List Acc) (j : Nat) : CS := (tr.take j).foldl (stepC c) CS.zero
theorem csAt_next {c : Cfg} {tr : List Acc} {j : Nat} {a : Acc} (h : tr[j]? = some a) : csAt c tr (j + 1) = stepC c (csAt c tr j) a := by
  unfold csAt
  rw [take_snoc h, List.foldl_append]
  rfl
def outC (c : Cfg) (tr : List Acc) (j : Nat) : Clk := match tr[j]? with | some a => mineC c (csAt c tr j) a | none => fun _ => 0
theorem outC_at {c : Cfg} {tr : List Acc} {j : Nat} {a : Acc} (h : tr[j]? = some a) : outC c tr j = mineC c (csAt c tr j) a := by unfold outC; rw [h]

/-- no number of a state is below zero or beyond n -/
def Bnd (n : Int) (s : CS) : Prop := (∀ t k, 0 ≤ s.th t k ∧ s.th t k ≤ n) ∧ ∀ w g, s.wd w = some g → ∀ k, 0 ≤ g k ∧ g k ≤ n
theorem Bnd.mine {n : Int} {s : CS} (h : Bnd n s) (c : Cfg) (a : Acc) (k : Nat) : 0 ≤ mineC c s a k ∧ mineC c s a k ≤ n + 1 := by
  have hb : 0 ≤ bump (s.th a.thread.toNat) a.thread.toNat k ∧ bump (s.th a.thread.toNat) a.thread.toNat k ≤ n + 1 := by
    have := h.1 a.thread.toNat k
    unfold bump
    split <;> omega
  unfold mineC
  split
  · exact hb
  · split
    · exact hb
    · cases hg : s.wd a.addr with
      | none => exact hb
      | some g =>
        have := h.2 _ g hg k
        show 0 ≤ (if _ < _ then _ else _) ∧ (if _ < _ then _ else _) ≤ n + 1
        split <;> omega
theorem Bnd.step {n : Int} {s : CS} (h : Bnd n s) (c : Cfg) (a : Acc) : Bnd (n + 1) (stepC c s a) := by
  refine ⟨fun t k => ?_, fun w g hg k => ?_⟩
  · show 0 ≤ (if t = a.thread.toNat then mineC c s a else s.th t) k ∧ _
    show 0 ≤ (if t = a.thread.toNat then mineC c s a else s.th t) k ∧ (if t = a.thread.toNat then mineC c s a else s.th t) k ≤ n + 1
    split
    · exact h.mine c a k
    · have := h.1 t k
      omega
  · have hg' : (if w = a.addr ∧ plainB c a.addr = false ∧ wroteB a = true then some (mineC c s a) else s.wd w) = some g := hg
    split at hg'
    · injection hg' with hg'
      subst hg'
      exact h.mine c a k
    · have := h.2 w g hg' k
      omega
theorem bnd_at (c : Cfg) (tr : List Acc) (j : Nat) (hj : j ≤ tr.length) : Bnd j (csAt c tr j) := by
  induction j with
  | zero => exact ⟨fun t k => ⟨Int.le_refl _, Int.le_refl _⟩, fun w g hg => by cases hg⟩
  | succ j ih =>
    obtain ⟨a, ha⟩ := at_lt (show j < tr.length by omega)
    rw [csAt_next ha]
    have := (ih (by omega)).step c a
    exact_mod_cast this
end Go.Proofs.Ytgbopmgeicokoaa
