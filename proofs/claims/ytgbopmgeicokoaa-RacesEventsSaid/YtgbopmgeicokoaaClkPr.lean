/-
  (*races.clock).raise: a clock raised to another, in place.
-/
import Derived.Test.YtgbopmgeicokoaaClkRs
import Derived.Deep.MidRow
import Derived.Deep.WholeRow
namespace Go.Proofs.Ytgbopmgeicokoaa
open Go.RowKit

theorem run_index_ints {P : Program} (t e : TypeId) (n : Nat) (q : IntKind) (cs : Array Value) (j : Nat) (v : Value) (w : World) (hu : P.underlying t = some (.array n e)) (he : P.underlying e = some (.int q)) (hs : (P.info? e).map (·.size) = some 1) (hj : j < n) (hv : cs[j]? = some v) :
    (Instr.index t (.agg cs) (.int .i64 (j : Int))).run P w = .ok v w := by
  have hb : (0 : Int) ≤ (j : Int) ∧ (j : Int) < (n : Int) := by omega
  cases hq : P.info? e with
  | none => simp [hq] at hs
  | some i =>
    have hsz : i.size = 1 := by simpa [hq] using hs
    simp [Instr.index, Sem.run_bind, run_underlying hu, asIntOf, hb, sizeOf, typeInfo, hq, hsz, part, isAgg, run_underlying he, hv]
    omega

theorem size_int : (Try.prog.info? 3).map (·.size) = some 1 := by kernel_rfl
theorem size_clock : (Try.prog.info? 149).map (·.size) = some 16 := by kernel_rfl

/-- the numbers from o on, the first j of them raised -/
def upToP (o j : Nat) (F y : Clk) : Clk := fun q => if o ≤ q ∧ q < o + j then (if F q < y (q - o) then y (q - o) else F q) else F q
theorem upToP_zero (o : Nat) (F y : Clk) : upToP o 0 F y = F := by
  funext q
  unfold upToP
  rw [if_neg (by omega)]
theorem upToP_at (o j : Nat) (F y : Clk) : upToP o j F y (o + j) = F (o + j) := by
  unfold upToP
  rw [if_neg (by omega)]
theorem upToP_next (N o j : Nat) (F y : Clk) : (ints (clkL N (upToP o j F y))).set (o + j) (.int .i64 (if F (o + j) < y j then y j else F (o + j))) = ints (clkL N (upToP o (j + 1) F y)) := by
  rw [clkL_set]
  congr 1
  refine clkL_congr fun k _ => ?_
  unfold upToP
  by_cases hk : k = o + j
  · subst hk
    have c : o ≤ o + j ∧ o + j < o + (j + 1) := by omega
    rw [if_pos rfl, if_pos c, show o + j - o = j by omega]
  · rw [if_neg hk]
    by_cases h1 : o ≤ k ∧ k < o + j
    · have c : o ≤ k ∧ k < o + (j + 1) := by omega
      rw [if_pos h1, if_pos c]
    · have c : ¬ (o ≤ k ∧ k < o + (j + 1)) := by omega
      rw [if_neg h1, if_neg c]

set_option maxRecDepth 100000 in
set_option maxHeartbeats 4000000 in
theorem praise_any (b o N : Nat) (t : TypeId) (F y : Clk) (w : World) (hB : Blk w b t (ints (clkL N F))) (ho : o + 16 ≤ N) :
    Calls Try.prog 114 #[.pointer (some ⟨b, o, none⟩), .agg (ints (clkL 16 y)).toArray] w (RaiseR b t (ints (clkL N (upToP o 16 F y))) w) := by
  have hbl := hB.lt
  obtain ⟨L, hL⟩ : ∃ L, L = (ints (clkL 16 y)).toArray := ⟨_, rfl⟩
  have hLs : L.size = 16 := by rw [hL]; simp [ints, clkL]
  have hLi : ∀ (j : Nat) W, j < 16 → (Instr.index 149 (.agg L) (.int .i64 (j : Int))).run Try.prog W = .ok (.int .i64 (y j)) W := fun j W hj =>
    run_index_ints _ 3 16 .i64 L j _ W Try.underlying149 Try.underlying3 size_int hj (by rw [hL]; simpa using clkV_get (f := y) hj)
  rw [← hL]
  have HLi := Lib.hid hLi
  have HB0 := Lib.hid hB
  clear hL hB hLi
  go_enter Try.func114, Try.ntmps114
  go_upto_region 1 with fail
  refine wp_region_lit ?_
  refine wpList_load_row rfl 149 _ rfl w.heap.size rfl 149 L (0, 0) _ (heap_alloc_new w _) Try.underlying149 rfl (by rw [size_clock, hLs]) ?_
  clear hLs
  go_wp2_with fail
  go_loopg [7] 16 (fun gk i wr => ∃ j : Nat, j + gk = 16 ∧ i = .int .i64 j ∧ Hid (w.grownBy wr (some b)) ∧ Hid (Blk wr b t (ints (clkL N (upToP o j F y)))))
  case atStart => exact ⟨0, by omega, rfl, World.grownBy_alloc w _ _, by rw [upToP_zero]; exact HB0.out.alloc _⟩
  case round =>
    obtain ⟨j, hj, rfl, HG, HB⟩ := hrel
    by_cases hlt : j < 16
    · have c1 : wr.cell? ⟨b, o + j, none⟩ = some (.int .i64 (F (o + j))) := HB.out.cell (by rw [clkV_get (by omega), upToP_at])
      have cf := HB.out.frozen (o + j)
      have hix := HLi.out j wr hlt
      have e1 : (j : Int) < 16 := by omega
      have e0 : (0 : Int) ≤ j := by omega
      rcases (show F (o + j) < y j ∨ y j ≤ F (o + j) by omega) with hm | hm
      · have HM := Lib.hid hm
        go_upto_region 4 with fail
        go_region
        go_wp2_with fail
        go_roundg (gk - 1)
        case measure => omega
        case rel => exact ⟨j + 1, by omega, by go_num, gb_drew (gb_setCell HG.out _ _), by have h5 := HB.out.set_ (o + j) (.int .i64 (if F (o + j) < y j then y j else F (o + j))); rw [upToP_next, if_pos HM.out] at h5; exact h5⟩
      · have HM := Lib.hid hm
        go_upto_region 4 with fail
        go_region
        go_wp2_with fail
        go_roundg (gk - 1)
        case measure => omega
        case rel => exact ⟨j + 1, by omega, by go_num, gb_drew (gb_setCell HG.out _ _), by have h5 := HB.out.set_ (o + j) (.int .i64 (if F (o + j) < y j then y j else F (o + j))); rw [upToP_next, if_neg (Int.not_lt.2 HM.out)] at h5; exact h5⟩
    · obtain rfl : j = 16 := by omega
      go_wp2_with fail
      go_end0
      exact ⟨rfl, HG.out, HB.out⟩
end Go.Proofs.Ytgbopmgeicokoaa
