/-
slices.Clone: of numbers, of registers, of an empty buffer. 
-/
import Derived.Test.YtgjdgapfnfhklaaGreatZ23
import Derived.Maps.Own
import Derived.Maps.OwnOps
import Derived.Maps.Views
import Derived.Great.BuildSlice
import Derived.Lib.OwnKind
import Derived.Test.YtgjdgapfnfhklaaGreatZ20
import Derived.DeepKeys4
set_option linter.unusedSimpArgs false
set_option linter.unusedVariables false
set_option maxRecDepth 100000
set_option maxHeartbeats 4000000
namespace Go.Proofs.YtgjdgapfnfhklaaGreat
open Go.RowKit
theorem info_int1 : (Tryz.prog.info? 3).map (fun i => (i.zero, i.size, i.bytes)) = some (some (.int .i64 0), 1, 8) := by kernel_rfl
theorem info_reg4 : (Tryz.prog.info? 96).map (fun i => (i.zero, i.size, i.bytes)) = some (some (.agg #[.int .i64 0, .int .i64 0, .int .i64 0, .int .i64 0]), 4, 32) := by kernel_rfl
theorem ints_one' (l : List Int) : ∀ u ∈ ints l, u.oneCell' = true := by
 intro u hu
 obtain ⟨x, _, rfl⟩ := List.mem_map.1 hu
 rfl
theorem natsI_one' (l : List Nat) : ∀ u ∈ natsI l, u.oneCell' = true := by
 intro u hu
 obtain ⟨x, _, rfl⟩ := List.mem_map.1 hu
 rfl
def CloR (t : TypeId) (sz n : Nat) (xs : List Value) (w : World) (e : Ending) (w' : World) : Prop :=
 ∃ g k, e = .returned (.slice (some ⟨g, 0, none⟩) n k) /\ w.heap.size <= g /\ Rw w' g t sz n k xs /\ Below w.heap.size w w'
theorem cloI_any (b o n k : Nat) (xs : List Value) (w : World) (h : Sl w w.heap.size 1 (some ⟨b, o, none⟩) n xs) (h1 : ∀ u ∈ xs, u.oneCell' = true) (hn : 0 < n /\ n <= 1024) :
  Calls Tryz.prog 55 #[.slice (some ⟨b, o, none⟩) n k] w (CloR 3 1 n xs w) := by
 obtain ⟨i0, hi0, hi0z, hi0s, hi0b⟩ := info_parts info_int1
 have HS := Lh h
 have H1 := Lh h1
 have qT : ∀ (w : World) (a : Option Addr) (n c : Nat), (binOp .eql 22 (.slice a n c) (.slice none 0 0)).run Tryz.prog w = .ok (.bool a.isNone) w := fun w a n c => Lib.run_eql_slice_nil w _ _ a n c 0 0 Tryz.underlying22
 have hn1 := hn.1
 have hn2 := hn.2
 clear h h1 hn
 go_enter Tryz.func55, Tryz.ntmps55
 go_wp2_with (at_builtin; go_must (refine wpList_app0 _ rfl _ _ 22 rfl w.heap.size 3 i0 (.int .i64 0) 1 8 Tryz.underlying22 hi0 hi0z hi0s hi0b rfl (by decide) _ rfl (made_e _ _ _ (Nat.le_refl _)) w.heap.size (some ⟨b, o, none⟩) n k xs rfl (HS.o.below ((Below.refl _ _).alloc (Nat.le_refl _) _)) H1.o (by simp only [maxLen]; omega) (by omega) (by rw [World.size_alloc]; omega) ?_; intro A2 k2 w2 hown2 hb2 hA2 hk1 hk2; have HO2 := Lh hown2; have HB2 := Lh hb2; have hA3 := hA2 hn1; clear hown2 hb2 hA2))
 subst hA3
 go_ret
 obtain ⟨g, hg, hB, hR⟩ := Rw.of_own HO2.o hn1
 injection hg with hg
 injection hg with hg _
 subst hg
 rw [World.size_alloc] at hB hR
 exact ⟨_, k2, rfl, hB, hR, ((Below.refl _ _).alloc (Nat.le_refl _) _).trans (HB2.o.mono (by rw [World.size_alloc]; omega))⟩
theorem cloR_any (b o n k : Nat) (xs : List Value) (w : World) (h : Sl w w.heap.size 4 (some ⟨b, o, none⟩) n xs) (h1 : ∀ u ∈ xs, u.oneCell' = true) (hn : 0 < n /\ n <= 1024) :
  Calls Tryz.prog 75 #[.slice (some ⟨b, o, none⟩) n k] w (CloR 96 4 n xs w) := by
 obtain ⟨i0, hi0, hi0z, hi0s, hi0b⟩ := info_parts info_reg4
 have HS := Lh h
 have H1 := Lh h1
 have qT : ∀ (w : World) (a : Option Addr) (n c : Nat), (binOp .eql 40 (.slice a n c) (.slice none 0 0)).run Tryz.prog w = .ok (.bool a.isNone) w := fun w a n c => Lib.run_eql_slice_nil w _ _ a n c 0 0 Tryz.underlying40
 have hn1 := hn.1
 have hn2 := hn.2
 clear h h1 hn
 go_enter Tryz.func75, Tryz.ntmps75
 go_wp2_with (at_builtin; go_must (refine wpList_app0 _ rfl _ _ 40 rfl w.heap.size 96 i0 (.agg #[.int .i64 0, .int .i64 0, .int .i64 0, .int .i64 0]) 4 32 Tryz.underlying40 hi0 hi0z hi0s hi0b rfl (by decide) _ rfl (made_e _ _ _ (Nat.le_refl _)) w.heap.size (some ⟨b, o, none⟩) n k xs rfl (HS.o.below ((Below.refl _ _).alloc (Nat.le_refl _) _)) H1.o (by simp only [maxLen]; omega) (by omega) (by rw [World.size_alloc]; omega) ?_; intro A2 k2 w2 hown2 hb2 hA2 hk1 hk2; have HO2 := Lh hown2; have HB2 := Lh hb2; have hA3 := hA2 hn1; clear hown2 hb2 hA2))
 subst hA3
 go_ret
 obtain ⟨g, hg, hB, hR⟩ := Rw.of_own HO2.o hn1
 injection hg with hg
 injection hg with hg _
 subst hg
 rw [World.size_alloc] at hB hR
 exact ⟨_, k2, rfl, hB, hR, ((Below.refl _ _).alloc (Nat.le_refl _) _).trans (HB2.o.mono (by rw [World.size_alloc]; omega))⟩
end Go.Proofs.YtgjdgapfnfhklaaGreat
namespace Go.Proofs.YtgjdgapfnfhklaaGreat
open Go.RowKit Go.Maps
def cellLit : Value -> DataW Unit
 | .int k n => .lit (.int k n)
 | _ => .nil
def clkR : Value -> Option (DataW Unit × List MemPlace)
 | .agg cs => some (.agg (cs.toList.map cellLit), [])
 | _ => none
abbrev clkV (f : Clk) : Value := .agg (ints (clkL 16 f)).toArray
def clkD (f : Clk) : DataW Unit := .agg ((ints (clkL 16 f)).map cellLit)
theorem clkR_clk (f : Clk) : clkR (clkV f) = some (clkD f, []) := rfl
theorem cell_inj : ∀ {l : List Value} {xs : List Int}, l.map cellLit = (ints xs).map cellLit -> l = ints xs
 | [], [], _ => rfl
 | v :: l, x :: xs, h => by
  simp only [ints, List.map_cons, List.cons.injEq] at h
  have ih := cell_inj (l := l) (xs := xs) h.2
  rw [ih]
  have hv : v = .int .i64 x := by
   have h1 := h.1
   cases v <;> simp [cellLit] at h1
   obtain ⟨rfl, rfl⟩ := h1
   rfl
  rw [hv]
  rfl
 | [], x :: xs, h => by simp [ints] at h
 | v :: l, [], h => by simp [ints] at h
theorem clkR_inv {v : Value} {f : Clk} {ps : List MemPlace} (h : clkR v = some (clkD f, ps)) : v = clkV f := by
 cases v <;> simp [clkR, clkD] at h
 rename_i cs
 have := cell_inj h.1
 unfold clkV
 rw [<- this]
def wdF (s : CS) (a : Int) : Clk := (s.wd a).getD (fun _ => 0)
def WdMap (w : World) (b n : Nat) (s : CS) : Prop := ∃ D : DataW Unit, w.ownsMap Tryz.prog 3 clkR b n D /\ IsMap D /\ ∀ a : Int, D.atKey (.int .i64 a) (clkD (fun _ => 0)) = clkD (wdF s a)
theorem wdMap_made (w : World) : WdMap (w.alloc (.map #[] 0)) w.heap.size 0 CS.zero := ⟨.map [], World.ownsMap_made w _ _ _, isMap_empty, fun _ => rfl⟩
theorem WdMap.kept {w w' : World} {b n : Nat} {s : CS} {row : Option Nat} (h : WdMap w b n s) (hg : w.grownBy w' row) (hne : some b ≠ row) : WdMap w' b n s := by
 obtain ⟨D, h1, h2⟩ := h
 exact ⟨D, h1.kept hg hne, h2⟩
theorem WdMap.lt {w : World} {b n : Nat} {s : CS} (h : WdMap w b n s) : b < w.heap.size := h.choose_spec.1.lt
theorem WdMap.below {w w' : World} {b n : Nat} {s : CS} (h : WdMap w b n s) (hb : Below w.heap.size w w') : WdMap w' b n s := h.kept (gb_below hb none) (by simp)
theorem WdMap.mono {w : World} {b n n' : Nat} {s : CS} (h : WdMap w b n s) (hn : n <= n') : WdMap w b n' s := by
 obtain ⟨D, h1, h2⟩ := h
 exact ⟨D, h1.mono hn, h2⟩
theorem law_int : Keyed Tryz.prog 3 := int_keyed Tryz.underlying3
theorem zero_clock (w : World) : (zeroValue 168).run Tryz.prog w = .ok (clkV (fun _ => 0)) w := by
 have h : (Tryz.prog.info? 168).map (fun i => (i.zero, i.size)) = some (some (clkV (fun _ => 0)), 16) := by kernel_rfl
 exact (zero_of_info h).1 w
theorem wf_i64 {a : Int} (h : -9223372036854775808 <= a /\ a <= 9223372036854775807) : (Lit.int .i64 a).wf = true := by
 have : (decide (IntKind.i64.min <= a) && decide (a <= IntKind.i64.max)) = true := by
  rw [show IntKind.i64.min = -9223372036854775808 from by decide, show IntKind.i64.max = 9223372036854775807 from by decide]
  simp
  exact h
 exact this
theorem wpList_wd {w : World} {ops : Array Oper} {rest : List Oper} {o : Oper} {act : Act} {Q : Exit -> Act -> World -> Prop} (hg : o.guard = none) (m x : Operand) (hop : o.op = Op.lookup 170 m x false)
  (b n : Nat) (s : CS) (hm : act.eval m = .map (some b)) (h : WdMap w b n s) (a : Int) (ha : -9223372036854775808 <= a /\ a <= 9223372036854775807) (hx : act.eval x = .int .i64 a)
  (hK : wpList Tryz.prog ops Q rest (act.put o.dst (clkV (wdF s a))) w) : wpList Tryz.prog ops Q (o :: rest) act w := by
 refine wpList_plain hg fun K' hK' => ?_
 obtain ⟨D, h1, _, h2⟩ := h
 obtain ⟨v, ps, hrun, hv⟩ := h1.lookup law_int Tryz.underlying170 (zero_clock w) (clkR_clk _) (keyOf_int_mk Tryz.underlying3 (wf_i64 ha))
 rw [h2] at hv
 have hv' := clkR_inv hv
 subst hv'
 unfold Oper.wp
 simp only [execOp, hop, hm, hx, Sem.run_bind, Sem.run_pure, hrun, Result.andThen]
 exact hK' _ _ hK
theorem wdF_step {c : Cfg} {s : CS} {x : Acc} (hp : plainB c x.addr = false) (hw : wroteB x = true) (a : Int) : wdF (stepC c s x) a = if a = x.addr then mineC c s x else wdF s a := by
 unfold wdF stepC
 dsimp only
 by_cases h : a = x.addr
 ·subst h
  rw [if_pos ⟨rfl, hp, hw⟩, if_pos rfl]
  rfl
 ·rw [if_neg (fun hh => h hh.1), if_neg h]
theorem wdF_same {c : Cfg} {s : CS} {x : Acc} (h : ¬ (plainB c x.addr = false /\ wroteB x = true)) (a : Int) : wdF (stepC c s x) a = wdF s a := by
 unfold wdF stepC
 dsimp only
 rw [if_neg (fun hh => h hh.2)]
theorem WdMap.same {w : World} {b n : Nat} {c : Cfg} {s : CS} {x : Acc} (h : WdMap w b n s) (hn : ¬ (plainB c x.addr = false /\ wroteB x = true)) : WdMap w b n (stepC c s x) := by
 obtain ⟨D, h1, h3, h2⟩ := h
 exact ⟨D, h1, h3, fun a => by rw [h2, wdF_same hn]⟩
end Go.Proofs.YtgjdgapfnfhklaaGreat
namespace Go.Proofs.YtgjdgapfnfhklaaGreat
open Go.RowKit
section
variable {P : Program} {ops : Array Oper} {rest : List Oper} {o : Oper} {a : Act} {w : World} {Q : Exit -> Act -> World -> Prop}
theorem wpList_mv (hgd : o.guard = none) (x : Operand) (ho : o.op = .move x) (v : Value) (hv : a.eval x = v) (h : wpList P ops Q rest (a.put o.dst v) w) : wpList P ops Q (o :: rest) a w := by
 subst hv
 exact wpList_plain hgd fun _ hK => by unfold Oper.wp execOp; rw [ho]; exact hK _ _ h
theorem wpList_nc (hgd : o.guard = none) (x : Operand) (ho : o.op = .nilCheck x) (p : Addr) (hv : a.eval x = .pointer (some p)) (h : wpList P ops Q rest (a.put o.dst (.pointer (some p))) w) : wpList P ops Q (o :: rest) a w := by
 refine wpList_plain hgd fun _ hK => ?_
 unfold Oper.wp execOp
 simp only [ho, hv]
 exact hK _ _ h
end
section
variable {ops : Array Oper} {rest : List Oper} {o : Oper} {a : Act} {w : World} {Q : Exit -> Act -> World -> Prop}
theorem wpList_clk (hgd : o.guard = none) (x : Operand) (ho : o.op = .load 168 x) (b off : Nat) (hx : a.eval x = .pointer (some ⟨b, off, none⟩)) (f : Clk) (hc : w.rangeAt b off (ints (clkL 16 f)))
  (h : wpList Tryz.prog ops Q rest (a.put o.dst (clkV f)) w) : wpList Tryz.prog ops Q (o :: rest) a w :=
 wpList_load_mid hgd 168 x ho b off hx _ _ hc Tryz.underlying168 rfl (by rw [size_clock]; simp [ints, clkL]) h
theorem info_clock : (Tryz.prog.info? 168).map (fun i => (i.zero, i.size, i.bytes)) = some (some (clkV (fun _ => 0)), 16, 128) := by kernel_rfl
theorem clkV_size (f : Clk) : (ints (clkL 16 f)).toArray.size = 16 := by simp [ints, clkL]
theorem wpList_clkSlice (hgd : o.guard = none) (x : Operand) (ho : o.op = .buildSlice 124 1 #[(0, x)]) (f : Clk) (hx : a.eval x = clkV f)
  (h : wpList Tryz.prog ops Q rest (a.put o.dst (.slice (some ⟨w.heap.size, 0, none⟩) 1 1)) (w.alloc (.cells (ints (clkL 16 f)).toArray 168))) : wpList Tryz.prog ops Q (o :: rest) a w := by
 obtain ⟨i, hi, hz, hs, _⟩ := info_parts info_clock
 refine wpList_buildSlice hgd 124 168 1 #[(0, x)] ho (ints (clkL 16 f)).toArray i (clkV (fun _ => 0)) Tryz.underlying124 hi hz (by rw [hs]; decide) (by rw [hs]; decide) ?_ h
 rw [Array.toList_map, hs]
 show Instr.fill _ _ [(0, a.eval x)] = _
 rw [hx]
 have := Go.Great.fill_whole (s := 16) (by decide) [clkV f] ((Array.range (1 * 16)).map ((clkV (fun _ => 0)).cells[· % (clkV (fun _ => 0)).cells.size]!)) (by intro v hv; simp at hv; subst hv; exact clkV_size f) (by simp)
 simpa [Value.cells] using this
end
theorem wd_store {w : World} {b n : Nat} {c : Cfg} {s : CS} (h : WdMap w b n s) (hn : n < maxLen) (y : Acc) (ha : -9223372036854775808 <= y.addr /\ y.addr <= 9223372036854775807) (hp : plainB c y.addr = false) (hw : wroteB y = true) (M : Clk) (hM : M = mineC c s y) :
  ∃ w', (Instr.mapUpdate 170 (.map (some b)) (.int .i64 y.addr) (.agg #[.int .i64 (M 0), .int .i64 (M 1), .int .i64 (M 2), .int .i64 (M 3), .int .i64 (M 4), .int .i64 (M 5), .int .i64 (M 6), .int .i64 (M 7), .int .i64 (M 8), .int .i64 (M 9), .int .i64 (M 10), .int .i64 (M 11), .int .i64 (M 12), .int .i64 (M 13), .int .i64 (M 14), .int .i64 (M 15)])).run Tryz.prog w = .ok () w' /\
   WdMap w' b (n + 1) (stepC c s y) /\ w.grownBy w' (some b) := by
 subst hM
 obtain ⟨D, h1, h3, h2⟩ := h
 obtain ⟨w', hrun, r1, r2⟩ := h1.update law_int Tryz.underlying170 hn (Go.Maps.keyOf_int_mk Tryz.underlying3 (wf_i64 ha)) (clkR_clk (mineC c s y))
 refine ⟨w', hrun, ⟨_, r1, h3.put _ _, fun a => ?_⟩, r2⟩
 rw [wdF_step hp hw]
 by_cases hay : a = y.addr
 ·subst hay
  rw [if_pos rfl, Go.Maps.atKey_put_same h3 (by exact True.intro)]
 ·rw [if_neg hay, Go.Maps.atKey_put_other (by intro he; injection he with _ he; exact hay he), h2]
end Go.Proofs.YtgjdgapfnfhklaaGreat
namespace Go.Proofs.YtgjdgapfnfhklaaGreat
open Go.RowKit
end Go.Proofs.YtgjdgapfnfhklaaGreat
namespace Go.Proofs.YtgjdgapfnfhklaaGreat
open Go.RowKit
def RaiseC (g : Nat) (t : TypeId) (n k : Nat) (L : List Value) (w : World) (e : Ending) (w' : World) : Prop := e = .returned (.tuple #[]) /\ w.grownBy w' (some g) /\ Rw w' g t 1 n k L
theorem rraise_cap (g : Nat) (f y : Clk) (A : Option Addr) (n k kg : Nat) (w : World) (hB : Rw w g 3 1 n kg (ints (clkL n f))) (hA : Sl w w.heap.size 1 A n (ints (clkL n y))) (hap : ∀ b o, A = some ⟨b, o, none⟩ -> b ≠ g) (hn : n <= maxLen) :
  Calls Tryz.prog 52 #[.slice (some ⟨g, 0, none⟩) n kg, .slice A n k] w (RaiseC g 3 n kg (ints (clkL n (maxC f y))) w) := by
 unfold maxLen at hn
 have HA := Lh hA
 have HAp := Lh hap
 have hg := hB.lt
 have HB0 := Lh hB
 clear hA hap hB
 go_enter Tryz.func52, Tryz.ntmps52
 go_wp2_with fail
 go_loopg [4] n (fun gk i wr => ∃ j : Nat, j + gk = n /\ i = .int .i64 j /\ Hid (w.grownBy wr (some g)) /\ Hid (Rw wr g 3 1 n kg (ints (clkL n (upTo j f y)))))
 case atStart => exact ⟨0, by omega, rfl, World.grownBy.refl w _, by rw [upTo_zero]; exact HB0⟩
 case round =>
  obtain ⟨j, hj, rfl, HG, HB⟩ := hrel
  by_cases hlt : j < n
  ·obtain ⟨b, o, rfl, hb, hc⟩ := HA.o.2 (by omega)
   have hne := HAp.o b o rfl
   have c1 : wr.cell? ⟨g, j, none⟩ = some (.int .i64 (f j)) := HB.o.cell (by rw [clkV_get hlt, upTo_at])
   have cf := HB.o.frozen j
   have c2 : wr.cell? ⟨b, o + j, none⟩ = some (.int .i64 (y j)) := (gb_cell HG.o hb hne).trans (hc j _ (clkV_get hlt))
   have e1 : (j : Int) < n := by omega
   have e0 : (0 : Int) <= j := by omega
   clear hc
   rcases (show f j < y j ∨ y j <= f j by omega) with hm | hm
   ·have HM := Lh hm
    go_upto_region 3 with fail
    go_region
    go_wp2_with fail
    go_roundg (gk - 1)
    case measure => omega
    case rel => exact ⟨j + 1, by omega, by go_num, gb_drew (gb_setCell HG.o _ _), by have h5 := HB.o.set_ j (.int .i64 (if f j < y j then y j else f j)); rw [upTo_next, if_pos HM.o] at h5; exact h5⟩
   ·have HM := Lh hm
    go_upto_region 3 with fail
    go_region
    go_wp2_with fail
    go_roundg (gk - 1)
    case measure => omega
    case rel => exact ⟨j + 1, by omega, by go_num, gb_drew (gb_setCell HG.o _ _), by have h5 := HB.o.set_ j (.int .i64 (if f j < y j then y j else f j)); rw [upTo_next, if_neg (Int.not_lt.2 HM.o)] at h5; exact h5⟩
  ·obtain rfl : n = j := by omega
   go_wp2_with fail
   go_end0
   exact ⟨rfl, HG.o, by have h5 := HB.o; rw [upTo_all] at h5; exact h5⟩
end Go.Proofs.YtgjdgapfnfhklaaGreat
namespace Go.Proofs.YtgjdgapfnfhklaaGreat
open Go.RowKit Go.Maps
def fitsK (P : Program) : Nat -> TypeId -> Bool
 | 0, _ => false
 | d + 1, t =>
  match P.underlying t with
  | some (.int .i64) => P.cellsOf t == 1
  | some (.array n e) => (P.cellsOf t == n * P.cellsOf e) && fitsK P d e
  | some (.struct fs) => (fs.all (·.name != "_")) && fs.all fun f => decide (f.offset + P.cellsOf f.type <= P.cellsOf t) && fitsK P d f.type
  | _ => false
def IntsOk (cs : List Value) : Prop := ∀ v ∈ cs, ∃ z : Int, v = .int .i64 z /\ (Go.Lit.int .i64 z).wf = true
theorem IntsOk.part {cs : List Value} (h : IntsOk cs) (i n : Nat) : IntsOk ((cs.drop i).take n) := fun v hv => h v (List.mem_of_mem_drop (List.mem_of_mem_take hv))
theorem mapM_some {α β : Type} {f : α -> Option β} : ∀ {l : List α}, (∀ x ∈ l, ∃ y, f x = some y) -> ∃ ys, l.mapM f = some ys
 | [], _ => ⟨[], rfl⟩
 | a :: l, h => by
  obtain ⟨y, hy⟩ := h a (by simp)
  obtain ⟨ys, hys⟩ := mapM_some (l := l) (fun x hx => h x (by simp [hx]))
  exact ⟨y :: ys, by simp [List.mapM_cons, hy, hys]⟩
theorem keyLits_ok {P : Program} : ∀ (d : Nat) (t : TypeId) (cs : List Value), fitsK P d t = true -> cs.length = P.cellsOf t -> IntsOk cs -> ∃ ls, P.keyLits d t cs = some ls
 | 0, _, _, h, _, _ => by simp [fitsK] at h
 | d + 1, t, cs, h, hl, hi => by
  rw [fitsK] at h
  split at h
  ·rename_i hu
   have h1 : P.cellsOf t = 1 := by simpa using h
   rw [h1] at hl
   match cs, hl with
   | [v], _ =>
    obtain ⟨z, rfl, hz⟩ := hi v (by simp)
    exact ⟨[.int .i64 z], by unfold Program.keyLits; rw [hu]; simp [hz]⟩
  ·rename_i n e hu
   rw [Bool.and_eq_true] at h
   have h1 : P.cellsOf t = n * P.cellsOf e := by simpa using h.1
   obtain ⟨ys, hys⟩ := mapM_some (f := fun i => P.keyLits d e ((cs.drop (i * P.cellsOf e)).take (P.cellsOf e))) (l := List.range n) (fun i hin => by
    have hin := List.mem_range.1 hin
    refine keyLits_ok d e _ h.2 ?_ (hi.part _ _)
    have h9 : (i + 1) * P.cellsOf e <= n * P.cellsOf e := Nat.mul_le_mul_right _ hin
    rw [Nat.add_mul, Nat.one_mul] at h9
    rw [List.length_take, List.length_drop]
    omega)
   refine ⟨ys.flatten, ?_⟩
   unfold Program.keyLits
   rw [hu]
   simp only [hl, if_true, hys]
   rfl
  ·rename_i fs hu
   rw [Bool.and_eq_true] at h
   obtain ⟨ys, hys⟩ := mapM_some (f := fun f : Field => P.keyLits d f.type ((cs.drop f.offset).take (P.cellsOf f.type))) (l := fs.toList) (fun f hf => by
    have h9 := Array.all_eq_true'.1 h.2 f (by simpa using hf)
    rw [Bool.and_eq_true, decide_eq_true_eq] at h9
    refine keyLits_ok d f.type _ h9.2 ?_ (hi.part _ _)
    rw [List.length_take, List.length_drop]
    omega)
   refine ⟨ys.flatten, ?_⟩
   unfold Program.keyLits
   rw [hu]
   simp only [hl, h.1, and_self, if_true, hys]
   rfl
  ·cases h
theorem laid_K : laidOutB Tryz.prog = true := by kernel_rfl
noncomputable def pmN (ks : List (List Value)) (cs : List Value) : Int := @ite _ (cs ∈ ks) (Classical.propDecidable _) 1 0
theorem pmN_in {ks : List (List Value)} {cs : List Value} (h : cs ∈ ks) : pmN ks cs = 1 := by unfold pmN; rw [if_pos h]
theorem pmN_out {ks : List (List Value)} {cs : List Value} (h : cs ∉ ks) : pmN ks cs = 0 := by unfold pmN; rw [if_neg h]
theorem pmN_snoc {ks : List (List Value)} {cs cs' : List Value} (h : cs' ≠ cs) : pmN (ks ++ [cs]) cs' = pmN ks cs' := by
 by_cases hm : cs' ∈ ks
 ·rw [pmN_in hm, pmN_in (by simp [hm])]
 ·rw [pmN_out hm, pmN_out (by simp [hm, h])]
theorem zero_intP (w : World) : (zeroValue 3).run Tryz.prog w = .ok (.int .i64 0) w := by
 have h : (Tryz.prog.info? 3).map (fun i => (i.zero, i.size)) = some (some (.int .i64 0), 1) := by kernel_rfl
 exact (zero_of_info h).1 w
end Go.Proofs.YtgjdgapfnfhklaaGreat
