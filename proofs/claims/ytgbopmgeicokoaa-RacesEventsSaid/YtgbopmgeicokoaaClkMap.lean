/-
  The words' clocks: a map of the call's own from addresses to clocks (arrays of sixteen numbers).
-/
import Derived.Test.YtgbopmgeicokoaaClkPr
import Derived.Maps.Own
import Derived.Maps.OwnOps
import Derived.Maps.Views
namespace Go.Proofs.Ytgbopmgeicokoaa
open Go.RowKit Go.Maps

def cellLit : Value → DataW Unit
  | .int k n => .lit (.int k n)
  | _ => .nil
/-- how an array of cells reads -/
def clkR : Value → Option (DataW Unit × List MemPlace)
  | .agg cs => some (.agg (cs.toList.map cellLit), [])
  | _ => none
abbrev clkV (f : Clk) : Value := .agg (ints (clkL 16 f)).toArray
def clkD (f : Clk) : DataW Unit := .agg ((ints (clkL 16 f)).map cellLit)
theorem clkR_clk (f : Clk) : clkR (clkV f) = some (clkD f, []) := rfl
theorem cell_inj : ∀ {l : List Value} {xs : List Int}, l.map cellLit = (ints xs).map cellLit → l = ints xs
  | [], [], _ => rfl
  | v :: l, x :: xs, h => by
    simp only [ints, List.map_cons, List.cons.injEq] at h
    have ih := cell_inj (l := l) (xs := xs) h.2
    rw [ih]
    have hv : v = .int .i64 x := by
      have h1 := h.1
      cases v <;> simp [cellLit] at h1
      obtain ⟨rfl, rfl⟩ := h1
      rfl
    rw [hv]
    rfl
  | [], x :: xs, h => by simp [ints] at h
  | v :: l, [], h => by simp [ints] at h
theorem clkR_inv {v : Value} {f : Clk} {ps : List MemPlace} (h : clkR v = some (clkD f, ps)) : v = clkV f := by
  cases v <;> simp [clkR, clkD] at h
  rename_i cs
  have := cell_inj h.1
  unfold clkV
  rw [← this]
/-- the words' clocks, absent: zeros -/
def wdF (s : CS) (a : Int) : Clk := (s.wd a).getD (fun _ => 0)
/-- block b is a map that holds the words' clocks of a state -/
def WdMap (w : World) (b n : Nat) (s : CS) : Prop := ∃ D : DataW Unit, w.ownsMap Try.prog 3 clkR b n D ∧ IsMap D ∧ ∀ a : Int, D.atKey (.int .i64 a) (clkD (fun _ => 0)) = clkD (wdF s a)
theorem wdMap_made (w : World) : WdMap (w.alloc (.map #[] 0)) w.heap.size 0 CS.zero := ⟨.map [], World.ownsMap_made w _ _ _, isMap_empty, fun _ => rfl⟩
theorem WdMap.kept {w w' : World} {b n : Nat} {s : CS} {row : Option Nat} (h : WdMap w b n s) (hg : w.grownBy w' row) (hne : some b ≠ row) : WdMap w' b n s := by
  obtain ⟨D, h1, h2⟩ := h
  exact ⟨D, h1.kept hg hne, h2⟩
theorem WdMap.lt {w : World} {b n : Nat} {s : CS} (h : WdMap w b n s) : b < w.heap.size := h.choose_spec.1.lt
theorem WdMap.below {w w' : World} {b n : Nat} {s : CS} (h : WdMap w b n s) (hb : Below w.heap.size w w') : WdMap w' b n s := h.kept (gb_below hb none) (by simp)
theorem WdMap.mono {w : World} {b n n' : Nat} {s : CS} (h : WdMap w b n s) (hn : n ≤ n') : WdMap w b n' s := by
  obtain ⟨D, h1, h2⟩ := h
  exact ⟨D, h1.mono hn, h2⟩
theorem law_int : Keyed Try.prog 3 := int_keyed Try.underlying3
theorem zero_clock (w : World) : (zeroValue 149).run Try.prog w = .ok (clkV (fun _ => 0)) w := by
  have h : (Try.prog.info? 149).map (fun i => (i.zero, i.size)) = some (some (clkV (fun _ => 0)), 16) := by kernel_rfl
  exact (zero_of_info h).1 w
theorem wf_i64 {a : Int} (h : -9223372036854775808 ≤ a ∧ a ≤ 9223372036854775807) : (Lit.int .i64 a).wf = true := by
  have : (decide (IntKind.i64.min ≤ a) && decide (a ≤ IntKind.i64.max)) = true := by
    rw [show IntKind.i64.min = -9223372036854775808 from by decide, show IntKind.i64.max = 9223372036854775807 from by decide]
    simp
    exact h
  exact this

/-- a look-up in it -/
theorem wpList_wd {w : World} {ops : Array Oper} {rest : List Oper} {o : Oper} {act : Act} {Q : Exit → Act → World → Prop} (hg : o.guard = none) (m x : Operand) (hop : o.op = Op.lookup 239 m x false)
    (b n : Nat) (s : CS) (hm : act.eval m = .map (some b)) (h : WdMap w b n s) (a : Int) (ha : -9223372036854775808 ≤ a ∧ a ≤ 9223372036854775807) (hx : act.eval x = .int .i64 a)
    (hK : wpList Try.prog ops Q rest (act.put o.dst (clkV (wdF s a))) w) : wpList Try.prog ops Q (o :: rest) act w := by
  refine wpList_plain hg fun K' hK' => ?_
  obtain ⟨D, h1, _, h2⟩ := h
  obtain ⟨v, ps, hrun, hv⟩ := h1.lookup law_int Try.underlying239 (zero_clock w) (clkR_clk _) (keyOf_int_mk Try.underlying3 (wf_i64 ha))
  rw [h2] at hv
  have hv' := clkR_inv hv
  subst hv'
  unfold Oper.wp
  simp only [execOp, hop, hm, hx, Sem.run_bind, Sem.run_pure, hrun, Result.andThen]
  exact hK' _ _ hK

theorem wdF_step {c : Cfg} {s : CS} {x : Acc} (hp : plainB c x.addr = false) (hw : wroteB x = true) (a : Int) : wdF (stepC c s x) a = if a = x.addr then mineC c s x else wdF s a := by
  unfold wdF stepC
  dsimp only
  by_cases h : a = x.addr
  · subst h
    rw [if_pos ⟨rfl, hp, hw⟩, if_pos rfl]
    rfl
  · rw [if_neg (fun hh => h hh.1), if_neg h]
theorem wdF_same {c : Cfg} {s : CS} {x : Acc} (h : ¬ (plainB c x.addr = false ∧ wroteB x = true)) (a : Int) : wdF (stepC c s x) a = wdF s a := by
  unfold wdF stepC
  dsimp only
  rw [if_neg (fun hh => h hh.2)]
theorem WdMap.same {w : World} {b n : Nat} {c : Cfg} {s : CS} {x : Acc} (h : WdMap w b n s) (hn : ¬ (plainB c x.addr = false ∧ wroteB x = true)) : WdMap w b n (stepC c s x) := by
  obtain ⟨D, h1, h3, h2⟩ := h
  exact ⟨D, h1, h3, fun a => by rw [h2, wdF_same hn]⟩

/-- a store into it -/
theorem wp_wdSet {w : World} {o : Oper} {act : Act} {K : Act → World → Prop} {Q : Exit → Act → World → Prop} (m x v : Operand) (hop : o.op = Op.mapUpdate 239 m x v)
    (b n : Nat) (c : Cfg) (s : CS) (hm : act.eval m = .map (some b)) (h : WdMap w b n s) (hn : n < maxLen) (y : Acc) (ha : -9223372036854775808 ≤ y.addr ∧ y.addr ≤ 9223372036854775807) (hx : act.eval x = .int .i64 y.addr)
    (hp : plainB c y.addr = false) (hw : wroteB y = true) (hv : act.eval v = clkV (mineC c s y))
    (hK : ∀ w', WdMap w' b (n + 1) (stepC c s y) → w.grownBy w' (some b) → K (act.put o.dst undef) w') : o.wp Try.prog act w K Q := by
  obtain ⟨D, h1, h3, h2⟩ := h
  obtain ⟨w', hrun, r1, r2⟩ := h1.update law_int Try.underlying239 hn (keyOf_int_mk Try.underlying3 (wf_i64 ha)) (clkR_clk (mineC c s y))
  unfold Oper.wp
  simp only [execOp, hop, hm, hx, hv, Sem.run_bind, Sem.run_pure, hrun, Result.andThen]
  refine hK w' ⟨_, r1, h3.put _ _, fun a => ?_⟩ r2
  rw [wdF_step hp hw]
  by_cases hay : a = y.addr
  · subst hay
    rw [if_pos rfl, atKey_put_same h3 (by exact True.intro)]
  · rw [if_neg hay, atKey_put_other (by intro he; injection he with _ he; exact hay he), h2]
theorem step_wdSet {w : World} {ops : Array Oper} {o : Oper} {act : Act} {K : Act → World → Prop} {Q : Exit → Act → World → Prop} {E : Prop} (hgd : o.guard = none) (m x v : Operand) (hop : o.op = Op.mapUpdate 239 m x v)
    (b n : Nat) (c : Cfg) (s : CS) (hm : act.eval m = .map (some b)) (h : WdMap w b n s) (hn : n < maxLen) (y : Acc) (ha : -9223372036854775808 ≤ y.addr ∧ y.addr ≤ 9223372036854775807) (hx : act.eval x = .int .i64 y.addr)
    (hp : plainB c y.addr = false) (hw : wroteB y = true) (hv : act.eval v = clkV (mineC c s y))
    (hK : ∀ w', WdMap w' b (n + 1) (stepC c s y) → w.grownBy w' (some b) → K (act.put o.dst undef) w') :
    if Region.wanted o (yielded ops act.tmps) = true then Oper.wp Try.prog o act w K Q else E := by
  have hwn : Region.wanted o (yielded ops act.tmps) = true := by simp [Region.wanted, hgd]
  rw [if_pos hwn]
  exact wp_wdSet m x v hop b n c s hm h hn y ha hx hp hw hv hK
/-- a whole clock out of the middle of a block -/
theorem step_clk {w : World} {ops : Array Oper} {o : Oper} {act : Act} {K : Act → World → Prop} {Q : Exit → Act → World → Prop} {E : Prop} (hgd : o.guard = none) (x : Operand) (ho : o.op = .load 149 x)
    (b off : Nat) (hx : act.eval x = .pointer (some ⟨b, off, none⟩)) (f : Clk) (hc : w.rangeAt b off (ints (clkL 16 f))) (hK : K (act.put o.dst (clkV f)) w) :
    if Region.wanted o (yielded ops act.tmps) = true then Oper.wp Try.prog o act w K Q else E := by
  have hwn : Region.wanted o (yielded ops act.tmps) = true := by simp [Region.wanted, hgd]
  rw [if_pos hwn]
  exact wp_load_mid 149 x ho b off hx _ _ hc Try.underlying149 rfl (by rw [size_clock]; simp [ints, clkL]) hK
end Go.Proofs.Ytgbopmgeicokoaa
