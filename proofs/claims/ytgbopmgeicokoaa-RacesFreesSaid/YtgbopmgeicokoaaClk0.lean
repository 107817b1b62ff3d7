/-
  Small functions of clocks: wrote, Wrote, num, sameInts, Ahead, Book.of.
  reclaimref27.raise, twin, Ahead: numbers raised to others, in place.
  (*races.clock).raise: a clock raised to another, in place.
  The words' clocks: a map of the call's own from addresses to clocks (arrays of sixteen numbers).
  Operations on clocks (arrays of sixteen numbers) taken one by one: a move, a nil check, a load, a slice of one.
  Rows of clocks: a row of headers, each the header of a row of its own.
-/
import Derived.Test.YtgbopmgeicokoaaProg
import Derived.Test.YtgbopmgeicokoaaAcc
import Derived.Test.YtgbopmgeicokoaaMem0
import Derived.Test.YtgbopmgeicokoaaWPlain
import Derived.Deep.MidRow
import Derived.Deep.WholeRow
import Derived.Maps.Own
import Derived.Maps.OwnOps
import Derived.Maps.Views
import Derived.Great.BuildSlice
import Derived.Lib.OwnKind
namespace Go.Proofs.Ytgbopmgeicokoaa
open Go.RowKit

theorem num27_any (x : Int) (w : World) : Calls Try.prog 24 #[.int .i64 x] w (fun e w' => e = .returned (.int .i64 x) ∧ w' = w) := by
  go_enter Try.func24, Try.ntmps24
  go_wp2_with fail
  go_ret
  exact ⟨rfl, rfl⟩

end Go.Proofs.Ytgbopmgeicokoaa
namespace Go.Proofs.Ytgbopmgeicokoaa
open Go.RowKit

theorem gb_setCell {w w' : World} {g : Nat} (h : w.grownBy w' (some g)) (i : Nat) (u : Value) : w.grownBy (w'.setCell ⟨g, i, none⟩ u) (some g) :=
  ⟨h.os, h.tape, h.output, by have := h.size; simpa [World.setCell] using this, fun k hk hne => (Below.heap_setCell w' ⟨g, i, none⟩ u k (fun he => hne (by rw [he]))).trans (h.block k hk hne)⟩
theorem gb_drew {w w' : World} {row : Option Nat} (h : w.grownBy w' row) : w.grownBy w'.drew row := ⟨h.os, h.tape, h.output, h.size, h.block⟩
theorem gb_below {w w' : World} (h : Below w.heap.size w w') (row : Option Nat) : w.grownBy w' row := ⟨h.os, h.tape, h.output, h.size, fun k hk _ => h.block k hk⟩
theorem gb_cell {w w' : World} {g b o : Nat} (h : w.grownBy w' (some g)) (hb : b < w.heap.size) (hne : b ≠ g) : w'.cell? ⟨b, o, none⟩ = w.cell? ⟨b, o, none⟩ := by
  have := h.block b hb (fun he => hne (by injection he))
  unfold World.cell?
  dsimp only
  rw [this]

theorem clkL_len (n : Nat) (f : Clk) : (clkL n f).length = n := by simp [clkL]
theorem clkL_get {n : Nat} {f : Clk} {k : Nat} (h : k < n) : (clkL n f)[k]? = some (f k) := by simp [clkL, h]
theorem clkV_get {n : Nat} {f : Clk} {k : Nat} (h : k < n) : (ints (clkL n f))[k]? = some (.int .i64 (f k)) := ints_get (clkL_get h)
theorem clkL_congr {n : Nat} {f f' : Clk} (h : ∀ k, k < n → f k = f' k) : clkL n f = clkL n f' := List.map_congr_left fun k hk => h k (List.mem_range.1 hk)
theorem clkL_set (n : Nat) (f : Clk) (j : Nat) (v : Int) : (ints (clkL n f)).set j (.int .i64 v) = ints (clkL n (fun k => if k = j then v else f k)) := by
  apply List.ext_getElem?
  intro i
  by_cases hi : i < n
  · rw [clkV_get hi, List.getElem?_set]
    by_cases hij : j = i
    · subst hij
      simp [ints, clkL, hi]
    · rw [if_neg hij, clkV_get hi, if_neg (fun h => hij h.symm)]
  · rw [List.getElem?_eq_none (by simp [ints, clkL]; omega), List.getElem?_eq_none (by simp [ints, clkL]; omega)]

/-- the first j numbers raised -/
def upTo (j : Nat) (f h : Clk) : Clk := fun k => if k < j then maxC f h k else f k
theorem upTo_zero (f h : Clk) : upTo 0 f h = f := by funext k; simp [upTo]
theorem upTo_all {n : Nat} {f h : Clk} : clkL n (upTo n f h) = clkL n (maxC f h) := clkL_congr fun k hk => by simp [upTo, hk]
theorem upTo_next (n j : Nat) (f h : Clk) : (ints (clkL n (upTo j f h))).set j (.int .i64 (if f j < h j then h j else f j)) = ints (clkL n (upTo (j + 1) f h)) := by
  rw [clkL_set]
  congr 1
  refine clkL_congr fun k _ => ?_
  unfold upTo
  by_cases hk : k = j
  · subst hk; simp [maxC]
  · rw [if_neg hk]
    by_cases hlt : k < j
    · rw [if_pos hlt, if_pos (by omega)]
    · rw [if_neg hlt, if_neg (by omega)]
theorem upTo_at (j : Nat) (f h : Clk) : upTo j f h j = f j := by simp [upTo]

/-- a copy in memory of its own -/
def CopyR (l : List Int) (n : Nat) (w : World) (e : Ending) (w' : World) : Prop := ∃ A k, e = .returned (.slice A n k) ∧ w'.ownsRow w.heap.size 3 1 (.slice A n k) n (ints l) ∧ Below w.heap.size w w' ∧ n ≤ k ∧ k ≤ maxLen
theorem ints_one' {l : List Int} : ∀ u ∈ ints l, u.oneCell' = true := by
  intro u hu
  obtain ⟨x, _, rfl⟩ := List.mem_map.1 hu
  rfl
theorem info_int' : (Try.prog.info? 3).map (fun i => (i.zero, i.size, i.bytes)) = some (some (.int .i64 0), 1, 8) := by kernel_rfl
theorem twin27_any (l : List Int) (A : Option Addr) (n k : Nat) (w : World) (h : Sl w w.heap.size 1 A n (ints l)) (hn : n * 8 ≤ 140737488355328) :
    Calls Try.prog 65 #[.slice A n k] w (CopyR l n w) := by
  obtain ⟨i0, hi0, hz0, hz1, hz2⟩ := info_parts info_int'
  have H := Lib.hid h
  clear h
  go_enter Try.func65, Try.ntmps65
  go_wp2_with (at_builtin; go_must (refine wpList_app0 _ rfl _ _ 30 rfl w.heap.size 3 i0 (.int .i64 0) 1 8 Try.underlying30 hi0 hz0 hz1 hz2 rfl (by decide) _ rfl (World.ownsRow_nil _ _ _ _) _ A n k (ints l) rfl H.out ints_one' (by simp only [maxLen]; omega) (by omega) (Nat.le_refl _) ?_; intro A2 k2 w2 hown2 hb2 _ hk1 hk2))
  go_ret
  exact ⟨A2, k2, rfl, hown2, hb2, hk1, hk2⟩

theorem ahead27_any (f h : Clk) (A A' : Option Addr) (n k k' t : Nat) (w : World) (hA : Sl w w.heap.size 1 A n (ints (clkL n f))) (hA' : Sl w w.heap.size 1 A' n (ints (clkL n h))) (ht : t < n) (hn : n ≤ maxLen) :
    Calls Try.prog 66 #[.slice A n k, .slice A' n k', .int .i64 t] w (BoolR (decide (f t ≤ h t)) w) := by
  unfold maxLen at hn
  obtain ⟨b, o, rfl, hb, hc⟩ := hA.2 (by omega)
  obtain ⟨b', o', rfl, hb', hc'⟩ := hA'.2 (by omega)
  have c1 : w.cell? ⟨b, o + t, none⟩ = some (.int .i64 (f t)) := hc t _ (clkV_get ht)
  have c2 : w.cell? ⟨b', o' + t, none⟩ = some (.int .i64 (h t)) := hc' t _ (clkV_get ht)
  have e1 : (t : Int) < n := by omega
  have e0 : (0 : Int) ≤ t := by omega
  clear hA hA' hc hc'
  go_enter Try.func66, Try.ntmps66
  go_upto_region 1 with fail
  go_quiet (fail)
  go_wp2_with fail
  go_ret
  exact ⟨rfl, (Below.refl _ _).drewN _⟩
end Go.Proofs.Ytgbopmgeicokoaa
namespace Go.Proofs.Ytgbopmgeicokoaa
open Go.RowKit

end Go.Proofs.Ytgbopmgeicokoaa
namespace Go.Proofs.Ytgbopmgeicokoaa
open Go.RowKit Go.Maps

end Go.Proofs.Ytgbopmgeicokoaa
namespace Go.Proofs.Ytgbopmgeicokoaa
open Go.RowKit

section
variable {P : Program} {ops : Array Oper} {rest : List Oper} {o : Oper} {a : Act} {w : World} {Q : Exit → Act → World → Prop}
theorem wpList_mv (hgd : o.guard = none) (x : Operand) (ho : o.op = .move x) (v : Value) (hv : a.eval x = v) (h : wpList P ops Q rest (a.put o.dst v) w) : wpList P ops Q (o :: rest) a w := by
  subst hv
  exact wpList_plain hgd fun _ hK => by unfold Oper.wp execOp; rw [ho]; exact hK _ _ h
end


end Go.Proofs.Ytgbopmgeicokoaa
namespace Go.Proofs.Ytgbopmgeicokoaa
open Go.RowKit

end Go.Proofs.Ytgbopmgeicokoaa
