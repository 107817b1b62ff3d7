/-
  word.Check: may a configuration be.
-/
import Derived.Test.YtgbopmgeicokoaaProg
import Derived.Test.YtgbopmgeicokoaaCfg
import Derived.Deep.LoopGhost
import Derived.Deep.Light
import Derived.Laws.Tables
import Derived.Deep.WholeRow
namespace Go.Proofs.Ytgbopmgeicokoaa
open Go.RowKit

theorem limits_len (c : Cfg) : (limits c).length = 7 := rfl
theorem okC_false {c : Cfg} {j : Nat} {x : Int × Int × Int} (h : (limits c)[j]? = some x) (hx : inL x = false) : okC c = false := by
  unfold okC
  rw [List.all_eq_false]
  exact ⟨x, List.mem_of_getElem? h, by simp [hx]⟩
theorem okC_true {c : Cfg} (h : ((limits c).take 7).all inL = true) : okC c = true := by
  unfold okC
  rwa [List.take_of_length_le (by rw [limits_len]; omega)] at h

def CheckR (c : Cfg) (w : World) (e : Ending) (w' : World) : Prop := e = .returned (.int .i64 (if okC c then 0 else 1)) ∧ Below w.heap.size w w'

theorem checkR_no {c : Cfg} {w w' : World} (h : okC c = false) (hb : Below w.heap.size w w') : CheckR c w (.returned (.int .i64 1)) w' := ⟨by rw [h]; rfl, hb⟩
theorem take_all {c : Cfg} {j : Nat} {x : Int × Int × Int} (h : ((limits c).take j).all inL = true) (hx : (limits c)[j]? = some x) (h1 : inL x = true) : ((limits c).take (j + 1)).all inL = true := by
  rw [take_snoc hx, List.all_append, h]
  simp [h1]

/-- the limits, as the array holds them -/
def limV (c : Cfg) : Array Value := #[.int .i64 c.threads, .int .i64 1, .int .i64 16, .int .i64 c.records, .int .i64 1, .int .i64 16, .int .i64 c.hazards, .int .i64 3, .int .i64 8, .int .i64 c.retire, .int .i64 1, .int .i64 1024, .int .i64 c.cache, .int .i64 0, .int .i64 64, .int .i64 c.slots, .int .i64 1, .int .i64 1024, .int .i64 c.buckets, .int .i64 1, .int .i64 64]

theorem size261 : (Try.prog.info? 261).map (·.size) = some 21 := by kernel_rfl
theorem limV_one (c : Cfg) : (limV c).all (·.oneCell') = true := by simp [limV, Value.oneCell']
def limZ : Array Value := #[.int .i64 0, .int .i64 0, .int .i64 0, .int .i64 0, .int .i64 0, .int .i64 0, .int .i64 0, .int .i64 0, .int .i64 0, .int .i64 0, .int .i64 0, .int .i64 0, .int .i64 0, .int .i64 0, .int .i64 0, .int .i64 0, .int .i64 0, .int .i64 0, .int .i64 0, .int .i64 0, .int .i64 0]
theorem lim_store (c : Cfg) (w : World) (o : Obj) : (storeCells ⟨w.heap.size + 1, 0, none⟩ (limV c).toList).run Try.prog ((w.alloc o).alloc (.cells limZ 261)) = .ok () ((w.alloc o).alloc (.cells (limV c) 261)) := by
  have := run_storeCells_new (P := Try.prog) (w.alloc o) 261 limZ (limV c) (by rw [size261]; rfl) rfl (limV_one c)
  rwa [World.size_alloc] at this
theorem lim_new (w : World) (o : Obj) (cs : Array Value) : ((w.alloc o).alloc (.cells cs 261)).heap[w.heap.size + 1]? = some (.cells cs 261 (0, 0)) := by
  have := heap_alloc_last (w.alloc o) (.cells cs 261)
  rwa [World.size_alloc] at this
theorem lim_at0 (c : Cfg) (w : World) : (Instr.index 261 (.agg (limV c)) (.int .i64 (0 : Int))).run Try.prog w = .ok (.agg #[.int .i64 c.threads, .int .i64 1, .int .i64 16]) w := by kernel_rfl
theorem lim_at1 (c : Cfg) (w : World) : (Instr.index 261 (.agg (limV c)) (.int .i64 (1 : Int))).run Try.prog w = .ok (.agg #[.int .i64 c.records, .int .i64 1, .int .i64 16]) w := by kernel_rfl
theorem lim_at2 (c : Cfg) (w : World) : (Instr.index 261 (.agg (limV c)) (.int .i64 (2 : Int))).run Try.prog w = .ok (.agg #[.int .i64 c.hazards, .int .i64 3, .int .i64 8]) w := by kernel_rfl
theorem lim_at3 (c : Cfg) (w : World) : (Instr.index 261 (.agg (limV c)) (.int .i64 (3 : Int))).run Try.prog w = .ok (.agg #[.int .i64 c.retire, .int .i64 1, .int .i64 1024]) w := by kernel_rfl
theorem lim_at4 (c : Cfg) (w : World) : (Instr.index 261 (.agg (limV c)) (.int .i64 (4 : Int))).run Try.prog w = .ok (.agg #[.int .i64 c.cache, .int .i64 0, .int .i64 64]) w := by kernel_rfl
theorem lim_at5 (c : Cfg) (w : World) : (Instr.index 261 (.agg (limV c)) (.int .i64 (5 : Int))).run Try.prog w = .ok (.agg #[.int .i64 c.slots, .int .i64 1, .int .i64 1024]) w := by kernel_rfl
theorem lim_at6 (c : Cfg) (w : World) : (Instr.index 261 (.agg (limV c)) (.int .i64 (6 : Int))).run Try.prog w = .ok (.agg #[.int .i64 c.buckets, .int .i64 1, .int .i64 64]) w := by kernel_rfl
theorem built261 (a b c d e f g : Int) : Try.prog.built 261 [(0, .agg #[.int .i64 a, .int .i64 1, .int .i64 16]), (1, .agg #[.int .i64 b, .int .i64 1, .int .i64 16]), (2, .agg #[.int .i64 c, .int .i64 3, .int .i64 8]), (3, .agg #[.int .i64 d, .int .i64 1, .int .i64 1024]), (4, .agg #[.int .i64 e, .int .i64 0, .int .i64 64]), (5, .agg #[.int .i64 f, .int .i64 1, .int .i64 1024]), (6, .agg #[.int .i64 g, .int .i64 1, .int .i64 64])] = some #[.int .i64 a, .int .i64 1, .int .i64 16, .int .i64 b, .int .i64 1, .int .i64 16, .int .i64 c, .int .i64 3, .int .i64 8, .int .i64 d, .int .i64 1, .int .i64 1024, .int .i64 e, .int .i64 0, .int .i64 64, .int .i64 f, .int .i64 1, .int .i64 1024, .int .i64 g, .int .i64 1, .int .i64 64] := by kernel_rfl

theorem wpList_builtTo {P : Program} {ops : Array Oper} {rest : List Oper} {o : Oper} {a : Act} {w : World} {Q : Exit → Act → World → Prop} (hg : o.guard = none) (t : TypeId) (parts : Array (Nat × Operand)) (ho : o.op = .build t parts)
    (cells : Array Value) (hb : P.built t (parts.map fun (i, x) => (i, a.eval x)).toList = some cells) (h : wpList P ops Q rest (a.put o.dst (.agg cells)) w) : wpList P ops Q (o :: rest) a w := by
  refine wpList_build hg t parts ho (by rw [hb]; rfl) ?_
  rw [hb]
  exact h

set_option maxRecDepth 100000 in
set_option maxHeartbeats 8000000 in
theorem check_any (c : Cfg) (w : World) : Calls Try.prog 112 #[cfgV c] w (CheckR c w) := by
  have hst := lim_store c w (.cells #[.int .i64 c.threads, .int .i64 c.records, .int .i64 c.hazards, .int .i64 c.retire, .int .i64 c.cache, .int .i64 c.slots, .int .i64 c.buckets] 45)
  have hls : (limV c).size = 21 := rfl
  unfold limZ at hst
  obtain ⟨L, hL⟩ : ∃ L, L = limV c := ⟨_, rfl⟩
  rw [← hL] at hst hls
  have HST := Lib.hid hst
  clear hst
  have HL := Lib.hid hL
  clear hL
  go_enter Try.func112, Try.ntmps112
  go_upto_region 1 with fail
  go_wp2_with (refine wpList_builtTo rfl 261 _ rfl L ?_ ?_; · (rw [Array.toList_map, HL.out]; exact built261 c.threads c.records c.hazards c.retire c.cache c.slots c.buckets))
  go_wp2_with fail
  rw [HST.out]
  simp only [Result.andThen]
  rw [Oper.upon_skip]
  go_upto_region 2 with fail
  refine wp_region_lit ?_
  refine wpList_load_row rfl 261 _ rfl (w.heap.size + 1) rfl 261 L (0, 0) _ (lim_new _ _ _) Try.underlying261 rfl (by rw [size261, hls]) ?_
  clear HST hls
  go_wp2_with fail
  go_loopg [29] 7 (fun g i wr => ∃ j : Nat, j + g = 7 ∧ i = .int .i64 j ∧ Below w.heap.size w wr ∧ Hid (((limits c).take j).all inL = true))
  case atStart => exact ⟨0, by omega, rfl, ((Below.refl _ _).alloc (Nat.le_refl _) _).alloc (by simp) _, rfl⟩
  case round =>
    obtain ⟨j, hj, rfl, hbr, HT⟩ := hrel
    have hz : w.heap.size ≤ wr.heap.size := hbr.size
    by_cases hlt : j < 7
    · have hjs : j = 0 ∨ j = 1 ∨ j = 2 ∨ j = 3 ∨ j = 4 ∨ j = 5 ∨ j = 6 := by omega
      rcases hjs with rfl | rfl | rfl | rfl | rfl | rfl | rfl
      · have hix := lim_at0 c wr
        rw [← HL.out] at hix
        cases h1 : decide (c.threads < 1) with
        | true =>
          have hb : okC c = false := okC_false (j := 0) rfl (by unfold inL; simp at h1; simp; omega)
          have HB := Lib.hid hb
          clear hb
          go_wp2_with fail
          go_ret
          exact checkR_no HB.out (hbr.alloc hz _)
        | false =>
          cases h2 : decide (16 < c.threads) with
          | true =>
            have hb : okC c = false := okC_false (j := 0) rfl (by unfold inL; simp at h2; simp; omega)
            have HB := Lib.hid hb
            clear hb
            go_wp2_with fail
            go_ret
            exact checkR_no HB.out (hbr.alloc hz _)
          | false =>
            have hx : inL (c.threads, 1, 16) = true := by unfold inL; simp at h1 h2; simp; omega
            have HX := Lib.hid hx
            clear hx
            go_wp2_with fail
            go_roundg (gk - 1)
            case measure => omega
            case rel => exact ⟨1, by omega, by go_num, hbr.alloc hz _, take_all HT.out rfl HX.out⟩
      · have hix := lim_at1 c wr
        rw [← HL.out] at hix
        cases h1 : decide (c.records < 1) with
        | true =>
          have hb : okC c = false := okC_false (j := 1) rfl (by unfold inL; simp at h1; simp; omega)
          have HB := Lib.hid hb
          clear hb
          go_wp2_with fail
          go_ret
          exact checkR_no HB.out (hbr.alloc hz _)
        | false =>
          cases h2 : decide (16 < c.records) with
          | true =>
            have hb : okC c = false := okC_false (j := 1) rfl (by unfold inL; simp at h2; simp; omega)
            have HB := Lib.hid hb
            clear hb
            go_wp2_with fail
            go_ret
            exact checkR_no HB.out (hbr.alloc hz _)
          | false =>
            have hx : inL (c.records, 1, 16) = true := by unfold inL; simp at h1 h2; simp; omega
            have HX := Lib.hid hx
            clear hx
            go_wp2_with fail
            go_roundg (gk - 1)
            case measure => omega
            case rel => exact ⟨2, by omega, by go_num, hbr.alloc hz _, take_all HT.out rfl HX.out⟩
      · have hix := lim_at2 c wr
        rw [← HL.out] at hix
        cases h1 : decide (c.hazards < 3) with
        | true =>
          have hb : okC c = false := okC_false (j := 2) rfl (by unfold inL; simp at h1; simp; omega)
          have HB := Lib.hid hb
          clear hb
          go_wp2_with fail
          go_ret
          exact checkR_no HB.out (hbr.alloc hz _)
        | false =>
          cases h2 : decide (8 < c.hazards) with
          | true =>
            have hb : okC c = false := okC_false (j := 2) rfl (by unfold inL; simp at h2; simp; omega)
            have HB := Lib.hid hb
            clear hb
            go_wp2_with fail
            go_ret
            exact checkR_no HB.out (hbr.alloc hz _)
          | false =>
            have hx : inL (c.hazards, 3, 8) = true := by unfold inL; simp at h1 h2; simp; omega
            have HX := Lib.hid hx
            clear hx
            go_wp2_with fail
            go_roundg (gk - 1)
            case measure => omega
            case rel => exact ⟨3, by omega, by go_num, hbr.alloc hz _, take_all HT.out rfl HX.out⟩
      · have hix := lim_at3 c wr
        rw [← HL.out] at hix
        cases h1 : decide (c.retire < 1) with
        | true =>
          have hb : okC c = false := okC_false (j := 3) rfl (by unfold inL; simp at h1; simp; omega)
          have HB := Lib.hid hb
          clear hb
          go_wp2_with fail
          go_ret
          exact checkR_no HB.out (hbr.alloc hz _)
        | false =>
          cases h2 : decide (1024 < c.retire) with
          | true =>
            have hb : okC c = false := okC_false (j := 3) rfl (by unfold inL; simp at h2; simp; omega)
            have HB := Lib.hid hb
            clear hb
            go_wp2_with fail
            go_ret
            exact checkR_no HB.out (hbr.alloc hz _)
          | false =>
            have hx : inL (c.retire, 1, 1024) = true := by unfold inL; simp at h1 h2; simp; omega
            have HX := Lib.hid hx
            clear hx
            go_wp2_with fail
            go_roundg (gk - 1)
            case measure => omega
            case rel => exact ⟨4, by omega, by go_num, hbr.alloc hz _, take_all HT.out rfl HX.out⟩
      · have hix := lim_at4 c wr
        rw [← HL.out] at hix
        cases h1 : decide (c.cache < 0) with
        | true =>
          have hb : okC c = false := okC_false (j := 4) rfl (by unfold inL; simp at h1; simp; omega)
          have HB := Lib.hid hb
          clear hb
          go_wp2_with fail
          go_ret
          exact checkR_no HB.out (hbr.alloc hz _)
        | false =>
          cases h2 : decide (64 < c.cache) with
          | true =>
            have hb : okC c = false := okC_false (j := 4) rfl (by unfold inL; simp at h2; simp; omega)
            have HB := Lib.hid hb
            clear hb
            go_wp2_with fail
            go_ret
            exact checkR_no HB.out (hbr.alloc hz _)
          | false =>
            have hx : inL (c.cache, 0, 64) = true := by unfold inL; simp at h1 h2; simp; omega
            have HX := Lib.hid hx
            clear hx
            go_wp2_with fail
            go_roundg (gk - 1)
            case measure => omega
            case rel => exact ⟨5, by omega, by go_num, hbr.alloc hz _, take_all HT.out rfl HX.out⟩
      · have hix := lim_at5 c wr
        rw [← HL.out] at hix
        cases h1 : decide (c.slots < 1) with
        | true =>
          have hb : okC c = false := okC_false (j := 5) rfl (by unfold inL; simp at h1; simp; omega)
          have HB := Lib.hid hb
          clear hb
          go_wp2_with fail
          go_ret
          exact checkR_no HB.out (hbr.alloc hz _)
        | false =>
          cases h2 : decide (1024 < c.slots) with
          | true =>
            have hb : okC c = false := okC_false (j := 5) rfl (by unfold inL; simp at h2; simp; omega)
            have HB := Lib.hid hb
            clear hb
            go_wp2_with fail
            go_ret
            exact checkR_no HB.out (hbr.alloc hz _)
          | false =>
            have hx : inL (c.slots, 1, 1024) = true := by unfold inL; simp at h1 h2; simp; omega
            have HX := Lib.hid hx
            clear hx
            go_wp2_with fail
            go_roundg (gk - 1)
            case measure => omega
            case rel => exact ⟨6, by omega, by go_num, hbr.alloc hz _, take_all HT.out rfl HX.out⟩
      · have hix := lim_at6 c wr
        rw [← HL.out] at hix
        cases h1 : decide (c.buckets < 1) with
        | true =>
          have hb : okC c = false := okC_false (j := 6) rfl (by unfold inL; simp at h1; simp; omega)
          have HB := Lib.hid hb
          clear hb
          go_wp2_with fail
          go_ret
          exact checkR_no HB.out (hbr.alloc hz _)
        | false =>
          cases h2 : decide (64 < c.buckets) with
          | true =>
            have hb : okC c = false := okC_false (j := 6) rfl (by unfold inL; simp at h2; simp; omega)
            have HB := Lib.hid hb
            clear hb
            go_wp2_with fail
            go_ret
            exact checkR_no HB.out (hbr.alloc hz _)
          | false =>
            have hx : inL (c.buckets, 1, 64) = true := by unfold inL; simp at h1 h2; simp; omega
            have HX := Lib.hid hx
            clear hx
            go_wp2_with fail
            go_roundg (gk - 1)
            case measure => omega
            case rel => exact ⟨7, by omega, by go_num, hbr.alloc hz _, take_all HT.out rfl HX.out⟩
    · obtain rfl : j = 7 := by omega
      have hok := okC_true HT.out
      go_wp2_with fail
      go_ret
      refine ⟨?_, hbr⟩
      rw [hok]
      rfl
end Go.Proofs.Ytgbopmgeicokoaa
