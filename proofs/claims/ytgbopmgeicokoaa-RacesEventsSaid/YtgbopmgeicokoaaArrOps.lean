/-
  Operations on clocks (arrays of sixteen numbers) taken one by one: a move, a nil check, a load, a slice of one.
-/
import Derived.Test.YtgbopmgeicokoaaClkMap
import Derived.Great.BuildSlice
namespace Go.Proofs.Ytgbopmgeicokoaa
open Go.RowKit

section
variable {P : Program} {ops : Array Oper} {rest : List Oper} {o : Oper} {a : Act} {w : World} {Q : Exit → Act → World → Prop}
theorem wpList_mv (hgd : o.guard = none) (x : Operand) (ho : o.op = .move x) (v : Value) (hv : a.eval x = v) (h : wpList P ops Q rest (a.put o.dst v) w) : wpList P ops Q (o :: rest) a w := by
  subst hv
  exact wpList_plain hgd fun _ hK => by unfold Oper.wp execOp; rw [ho]; exact hK _ _ h
theorem wpList_as (hgd : o.guard = none) (x : Operand) (ho : o.op = .assign x) (v : Value) (hv : a.eval x = v) (h : wpList P ops Q rest (a.put o.dst v) w) : wpList P ops Q (o :: rest) a w := by
  subst hv
  exact wpList_plain hgd fun _ hK => by unfold Oper.wp execOp; rw [ho]; exact hK _ _ h
theorem wpList_nc (hgd : o.guard = none) (x : Operand) (ho : o.op = .nilCheck x) (p : Addr) (hv : a.eval x = .pointer (some p)) (h : wpList P ops Q rest (a.put o.dst (.pointer (some p))) w) : wpList P ops Q (o :: rest) a w := by
  refine wpList_plain hgd fun _ hK => ?_
  unfold Oper.wp execOp
  simp only [ho, hv]
  exact hK _ _ h
end

section
variable {ops : Array Oper} {rest : List Oper} {o : Oper} {a : Act} {w : World} {Q : Exit → Act → World → Prop}
theorem wpList_clk (hgd : o.guard = none) (x : Operand) (ho : o.op = .load 149 x) (b off : Nat) (hx : a.eval x = .pointer (some ⟨b, off, none⟩)) (f : Clk) (hc : w.rangeAt b off (ints (clkL 16 f)))
    (h : wpList Try.prog ops Q rest (a.put o.dst (clkV f)) w) : wpList Try.prog ops Q (o :: rest) a w :=
  wpList_load_mid hgd 149 x ho b off hx _ _ hc Try.underlying149 rfl (by rw [size_clock]; simp [ints, clkL]) h
theorem info_clock : (Try.prog.info? 149).map (fun i => (i.zero, i.size, i.bytes)) = some (some (clkV (fun _ => 0)), 16, 128) := by kernel_rfl
theorem clkV_size (f : Clk) : (ints (clkL 16 f)).toArray.size = 16 := by simp [ints, clkL]
theorem wpList_clkSlice (hgd : o.guard = none) (x : Operand) (ho : o.op = .buildSlice 145 1 #[(0, x)]) (f : Clk) (hx : a.eval x = clkV f)
    (h : wpList Try.prog ops Q rest (a.put o.dst (.slice (some ⟨w.heap.size, 0, none⟩) 1 1)) (w.alloc (.cells (ints (clkL 16 f)).toArray 149))) : wpList Try.prog ops Q (o :: rest) a w := by
  obtain ⟨i, hi, hz, hs, _⟩ := info_parts info_clock
  refine wpList_buildSlice hgd 145 149 1 #[(0, x)] ho (ints (clkL 16 f)).toArray i (clkV (fun _ => 0)) Try.underlying145 hi hz (by rw [hs]; decide) (by rw [hs]; decide) ?_ h
  rw [Array.toList_map, hs]
  show Instr.fill _ _ [(0, a.eval x)] = _
  rw [hx]
  have := Go.Great.fill_whole (s := 16) (by decide) [clkV f] ((Array.range (1 * 16)).map ((clkV (fun _ => 0)).cells[· % (clkV (fun _ => 0)).cells.size]!)) (by intro v hv; simp at hv; subst hv; exact clkV_size f) (by simp)
  simpa [Value.cells] using this
end

/-- a store into the words' clocks, as an equation for a walk -/
theorem wd_store {w : World} {b n : Nat} {c : Cfg} {s : CS} (h : WdMap w b n s) (hn : n < maxLen) (y : Acc) (ha : -9223372036854775808 ≤ y.addr ∧ y.addr ≤ 9223372036854775807) (hp : plainB c y.addr = false) (hw : wroteB y = true) (M : Clk) (hM : M = mineC c s y) :
    ∃ w', (Instr.mapUpdate 239 (.map (some b)) (.int .i64 y.addr) (.agg #[.int .i64 (M 0), .int .i64 (M 1), .int .i64 (M 2), .int .i64 (M 3), .int .i64 (M 4), .int .i64 (M 5), .int .i64 (M 6), .int .i64 (M 7), .int .i64 (M 8), .int .i64 (M 9), .int .i64 (M 10), .int .i64 (M 11), .int .i64 (M 12), .int .i64 (M 13), .int .i64 (M 14), .int .i64 (M 15)])).run Try.prog w = .ok () w' ∧
      WdMap w' b (n + 1) (stepC c s y) ∧ w.grownBy w' (some b) := by
  subst hM
  obtain ⟨D, h1, h3, h2⟩ := h
  obtain ⟨w', hrun, r1, r2⟩ := h1.update law_int Try.underlying239 hn (Go.Maps.keyOf_int_mk Try.underlying3 (wf_i64 ha)) (clkR_clk (mineC c s y))
  refine ⟨w', hrun, ⟨_, r1, h3.put _ _, fun a => ?_⟩, r2⟩
  rw [wdF_step hp hw]
  by_cases hay : a = y.addr
  · subst hay
    rw [if_pos rfl, Go.Maps.atKey_put_same h3 (by exact True.intro)]
  · rw [if_neg hay, Go.Maps.atKey_put_other (by intro he; injection he with _ he; exact hay he), h2]
end Go.Proofs.Ytgbopmgeicokoaa
