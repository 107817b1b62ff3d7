/-
  reclaimref27.raise, twin, Ahead: numbers raised to others, in place.
-/
import Derived.Test.YtgbopmgeicokoaaClkSm
import Derived.Test.YtgbopmgeicokoaaApp0
namespace Go.Proofs.Ytgbopmgeicokoaa
open Go.RowKit

theorem gb_setCell {w w' : World} {g : Nat} (h : w.grownBy w' (some g)) (i : Nat) (u : Value) : w.grownBy (w'.setCell ⟨g, i, none⟩ u) (some g) :=
  ⟨h.os, h.tape, h.output, by have := h.size; simpa [World.setCell] using this, fun k hk hne => (Below.heap_setCell w' ⟨g, i, none⟩ u k (fun he => hne (by rw [he]))).trans (h.block k hk hne)⟩
theorem gb_drewN {w w' : World} {row : Option Nat} (h : w.grownBy w' row) (n : Nat) : w.grownBy (w'.drewN n) row := ⟨h.os, h.tape, h.output, h.size, h.block⟩
theorem gb_drew {w w' : World} {row : Option Nat} (h : w.grownBy w' row) : w.grownBy w'.drew row := ⟨h.os, h.tape, h.output, h.size, h.block⟩
theorem gb_below {w w' : World} (h : Below w.heap.size w w') (row : Option Nat) : w.grownBy w' row := ⟨h.os, h.tape, h.output, h.size, fun k hk _ => h.block k hk⟩
theorem below_gb {w0 w w' : World} {B g : Nat} (h : Below B w0 w) (hg : w.grownBy w' (some g)) (hB : B ≤ g) (hs : B ≤ w.heap.size) : Below B w0 w' := h.grown hg hs (fun q hq => by injection hq with hq; omega)
theorem gb_cell {w w' : World} {g b o : Nat} (h : w.grownBy w' (some g)) (hb : b < w.heap.size) (hne : b ≠ g) : w'.cell? ⟨b, o, none⟩ = w.cell? ⟨b, o, none⟩ := by
  have := h.block b hb (fun he => hne (by injection he))
  unfold World.cell?
  dsimp only
  rw [this]

theorem clkL_len (n : Nat) (f : Clk) : (clkL n f).length = n := by simp [clkL]
theorem clkL_get {n : Nat} {f : Clk} {k : Nat} (h : k < n) : (clkL n f)[k]? = some (f k) := by simp [clkL, h]
theorem clkV_get {n : Nat} {f : Clk} {k : Nat} (h : k < n) : (ints (clkL n f))[k]? = some (.int .i64 (f k)) := ints_get (clkL_get h)
theorem clkL_congr {n : Nat} {f f' : Clk} (h : ∀ k, k < n → f k = f' k) : clkL n f = clkL n f' := List.map_congr_left fun k hk => h k (List.mem_range.1 hk)
theorem clkL_set (n : Nat) (f : Clk) (j : Nat) (v : Int) : (ints (clkL n f)).set j (.int .i64 v) = ints (clkL n (fun k => if k = j then v else f k)) := by
  apply List.ext_getElem?
  intro i
  by_cases hi : i < n
  · rw [clkV_get hi, List.getElem?_set]
    by_cases hij : j = i
    · subst hij
      simp [ints, clkL, hi]
    · rw [if_neg hij, clkV_get hi, if_neg (fun h => hij h.symm)]
  · rw [List.getElem?_eq_none (by simp [ints, clkL]; omega), List.getElem?_eq_none (by simp [ints, clkL]; omega)]

/-- the first j numbers raised -/
def upTo (j : Nat) (f h : Clk) : Clk := fun k => if k < j then maxC f h k else f k
theorem upTo_zero (f h : Clk) : upTo 0 f h = f := by funext k; simp [upTo]
theorem upTo_all {n : Nat} {f h : Clk} : clkL n (upTo n f h) = clkL n (maxC f h) := clkL_congr fun k hk => by simp [upTo, hk]
theorem upTo_next (n j : Nat) (f h : Clk) : (ints (clkL n (upTo j f h))).set j (.int .i64 (if f j < h j then h j else f j)) = ints (clkL n (upTo (j + 1) f h)) := by
  rw [clkL_set]
  congr 1
  refine clkL_congr fun k _ => ?_
  unfold upTo
  by_cases hk : k = j
  · subst hk; simp [maxC]
  · rw [if_neg hk]
    by_cases hlt : k < j
    · rw [if_pos hlt, if_pos (by omega)]
    · rw [if_neg hlt, if_neg (by omega)]
theorem upTo_at (j : Nat) (f h : Clk) : upTo j f h j = f j := by simp [upTo]

def RaiseR (g : Nat) (t : TypeId) (L : List Value) (w : World) (e : Ending) (w' : World) : Prop := e = .returned (.tuple #[]) ∧ w.grownBy w' (some g) ∧ Blk w' g t L
set_option maxRecDepth 100000 in
set_option maxHeartbeats 2000000 in
theorem rraise_any (g : Nat) (f y : Clk) (A : Option Addr) (n k : Nat) (w : World) (hB : Blk w g 3 (ints (clkL n f))) (hA : Sl w w.heap.size 1 A n (ints (clkL n y))) (hap : ∀ b o, A = some ⟨b, o, none⟩ → b ≠ g) (hn : n ≤ maxLen) :
    Calls Try.prog 63 #[.slice (some ⟨g, 0, none⟩) n n, .slice A n k] w (RaiseR g 3 (ints (clkL n (maxC f y))) w) := by
  unfold maxLen at hn
  have HA := Lib.hid hA
  have HAp := Lib.hid hap
  have hg := hB.lt
  have HB0 := Lib.hid hB
  clear hA hap hB
  go_enter Try.func63, Try.ntmps63
  go_wp2_with fail
  go_loopg [4] n (fun gk i wr => ∃ j : Nat, j + gk = n ∧ i = .int .i64 j ∧ Hid (w.grownBy wr (some g)) ∧ Hid (Blk wr g 3 (ints (clkL n (upTo j f y)))))
  case atStart => exact ⟨0, by omega, rfl, World.grownBy.refl w _, by rw [upTo_zero]; exact HB0⟩
  case round =>
    obtain ⟨j, hj, rfl, HG, HB⟩ := hrel
    by_cases hlt : j < n
    · obtain ⟨b, o, rfl, hb, hc⟩ := HA.out.2 (by omega)
      have hne := HAp.out b o rfl
      have c1 : wr.cell? ⟨g, j, none⟩ = some (.int .i64 (f j)) := HB.out.cell (by rw [clkV_get hlt, upTo_at])
      have cf := HB.out.frozen j
      have c2 : wr.cell? ⟨b, o + j, none⟩ = some (.int .i64 (y j)) := (gb_cell HG.out hb hne).trans (hc j _ (clkV_get hlt))
      have e1 : (j : Int) < n := by omega
      have e0 : (0 : Int) ≤ j := by omega
      clear hc
      rcases (show f j < y j ∨ y j ≤ f j by omega) with hm | hm
      · have HM := Lib.hid hm
        go_upto_region 3 with fail
        go_region
        go_wp2_with fail
        go_roundg (gk - 1)
        case measure => omega
        case rel => exact ⟨j + 1, by omega, by go_num, gb_drew (gb_setCell HG.out _ _), by have h5 := HB.out.set_ j (.int .i64 (if f j < y j then y j else f j)); rw [upTo_next, if_pos HM.out] at h5; exact h5⟩
      · have HM := Lib.hid hm
        go_upto_region 3 with fail
        go_region
        go_wp2_with fail
        go_roundg (gk - 1)
        case measure => omega
        case rel => exact ⟨j + 1, by omega, by go_num, gb_drew (gb_setCell HG.out _ _), by have h5 := HB.out.set_ j (.int .i64 (if f j < y j then y j else f j)); rw [upTo_next, if_neg (Int.not_lt.2 HM.out)] at h5; exact h5⟩
    · obtain rfl : n = j := by omega
      go_wp2_with fail
      go_end0
      exact ⟨rfl, HG.out, by have h5 := HB.out; rw [upTo_all] at h5; exact h5⟩

/-- a copy in memory of its own -/
def CopyR (l : List Int) (n : Nat) (w : World) (e : Ending) (w' : World) : Prop := ∃ A k, e = .returned (.slice A n k) ∧ w'.ownsRow w.heap.size 3 1 (.slice A n k) n (ints l) ∧ Below w.heap.size w w' ∧ n ≤ k ∧ k ≤ maxLen
theorem ints_one' {l : List Int} : ∀ u ∈ ints l, u.oneCell' = true := by
  intro u hu
  obtain ⟨x, _, rfl⟩ := List.mem_map.1 hu
  rfl
theorem info_int' : (Try.prog.info? 3).map (fun i => (i.zero, i.size, i.bytes)) = some (some (.int .i64 0), 1, 8) := by kernel_rfl
theorem twin27_any (l : List Int) (A : Option Addr) (n k : Nat) (w : World) (h : Sl w w.heap.size 1 A n (ints l)) (hn : n * 8 ≤ 140737488355328) :
    Calls Try.prog 65 #[.slice A n k] w (CopyR l n w) := by
  obtain ⟨i0, hi0, hz0, hz1, hz2⟩ := info_parts info_int'
  have H := Lib.hid h
  clear h
  go_enter Try.func65, Try.ntmps65
  go_wp2_with (at_builtin; go_must (refine wpList_app0 _ rfl _ _ 30 rfl w.heap.size 3 i0 (.int .i64 0) 1 8 Try.underlying30 hi0 hz0 hz1 hz2 rfl (by decide) _ rfl (World.ownsRow_nil _ _ _ _) _ A n k (ints l) rfl H.out ints_one' (by simp only [maxLen]; omega) (by omega) (Nat.le_refl _) ?_; intro A2 k2 w2 hown2 hb2 _ hk1 hk2))
  go_ret
  exact ⟨A2, k2, rfl, hown2, hb2, hk1, hk2⟩

theorem ahead27_any (f h : Clk) (A A' : Option Addr) (n k k' t : Nat) (w : World) (hA : Sl w w.heap.size 1 A n (ints (clkL n f))) (hA' : Sl w w.heap.size 1 A' n (ints (clkL n h))) (ht : t < n) (hn : n ≤ maxLen) :
    Calls Try.prog 66 #[.slice A n k, .slice A' n k', .int .i64 t] w (BoolR (decide (f t ≤ h t)) w) := by
  unfold maxLen at hn
  obtain ⟨b, o, rfl, hb, hc⟩ := hA.2 (by omega)
  obtain ⟨b', o', rfl, hb', hc'⟩ := hA'.2 (by omega)
  have c1 : w.cell? ⟨b, o + t, none⟩ = some (.int .i64 (f t)) := hc t _ (clkV_get ht)
  have c2 : w.cell? ⟨b', o' + t, none⟩ = some (.int .i64 (h t)) := hc' t _ (clkV_get ht)
  have e1 : (t : Int) < n := by omega
  have e0 : (0 : Int) ≤ t := by omega
  clear hA hA' hc hc'
  go_enter Try.func66, Try.ntmps66
  go_upto_region 1 with fail
  go_quiet (fail)
  go_wp2_with fail
  go_ret
  exact ⟨rfl, (Below.refl _ _).drewN _⟩
end Go.Proofs.Ytgbopmgeicokoaa
