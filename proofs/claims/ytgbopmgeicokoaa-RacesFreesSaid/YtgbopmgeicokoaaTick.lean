/-
  races.times.tick: the clock of an event.
-/
import Derived.Test.YtgbopmgeicokoaaEvt0
import Derived.Test.YtgbopmgeicokoaaCpd
import Derived.Test.YtgbopmgeicokoaaWAt
import Derived.BigQuiet
import Derived.StillTailTactics
import Derived.Deep.DeepCutAuto
namespace Go.Proofs.Ytgbopmgeicokoaa
open Go.RowKit
set_option linter.unusedVariables false
set_option linter.unusedSimpArgs false

def tC (x : TS) (c : Nat) : Int := if c < 16 then x.m (c / 4) (c % 4) else x.wd ((c - 16) / 4) ((c - 16) % 4)
def tL (x : TS) : List Value := ints ((List.range 40).map (tC x))
theorem tL_congr {x y : TS} (h : ∀ t i, t < 4 → i < 4 → x.m t i = y.m t i) (h2 : ∀ a i, a < 6 → i < 4 → x.wd a i = y.wd a i) : tL x = tL y := by
  unfold tL
  congr 1
  refine List.map_congr_left fun c hc => ?_
  have hc := List.mem_range.1 hc
  unfold tC
  split
  · exact h _ _ (by omega) (by omega)
  · exact h2 _ _ (by omega) (by omega)
theorem tL_at (x : TS) {c : Nat} (h : c < 40) : (tL x)[c]? = some (.int .i64 (tC x c)) := by
  unfold tL
  exact ints_get (by simp [h])
theorem tC_m (x : TS) {t i : Nat} (ht : t < 4) (hi : i < 4) : tC x (t * 4 + i) = x.m t i := by
  unfold tC
  rw [if_pos (by omega), show (t * 4 + i) / 4 = t by omega, show (t * 4 + i) % 4 = i by omega]
theorem tC_w (x : TS) {a i : Nat} (hi : i < 4) : tC x (16 + (a * 4 + i)) = x.wd a i := by
  unfold tC
  rw [if_neg (by omega), show (16 + (a * 4 + i) - 16) / 4 = a by omega, show (16 + (a * 4 + i) - 16) % 4 = i by omega]
theorem tL_m (x : TS) {t i : Nat} (ht : t < 4) (hi : i < 4) : (tL x)[t * 4 + i]? = some (.int .i64 (x.m t i)) := by rw [tL_at x (by omega), tC_m x ht hi]
theorem tL_w (x : TS) {a i : Nat} (ha : a < 6) (hi : i < 4) : (tL x)[16 + (a * 4 + i)]? = some (.int .i64 (x.wd a i)) := by rw [tL_at x (by omega), tC_w x hi]
def TS.own (x : TS) (t : Nat) (f : Clk) : TS := ⟨fun i => if i = t then f else x.m i, x.wd⟩
theorem tL_set (x : TS) {c : Nat} (h : c < 40) (v : Int) : (tL x).set c (.int .i64 v) = ints ((List.range 40).map fun i => if i = c then v else tC x i) := by
  unfold tL
  rw [ints_set]
  congr 1
  apply List.ext_getElem?
  intro i
  by_cases hi : i < 40
  · by_cases hc : i = c
    · subst hc
      rw [List.getElem?_set_self (by simpa using hi)]
      simp [hi]
    · rw [List.getElem?_set_ne (Ne.symm hc)]
      simp [hi, hc]
  · rw [List.getElem?_eq_none (by simp; omega), List.getElem?_eq_none (by simp; omega)]
theorem tL_own (x : TS) {t i : Nat} (f : Clk) (ht : t < 4) (hi : i < 4) (v : Int) : (tL (x.own t f)).set (t * 4 + i) (.int .i64 v) = tL (x.own t (fun k => if k = i then v else f k)) := by
  rw [tL_set _ (by omega)]
  unfold tL
  congr 1
  refine List.map_congr_left fun c hc => ?_
  have hc := List.mem_range.1 hc
  by_cases h : c = t * 4 + i
  · subst h
    rw [if_pos rfl, tC_m _ ht hi]
    simp [TS.own]
  · rw [if_neg h]
    unfold tC TS.own
    by_cases h16 : c < 16
    · rw [if_pos h16, if_pos h16]
      dsimp only
      by_cases h4 : c / 4 = t
      · rw [if_pos h4, if_pos h4, if_neg (by omega)]
      · rw [if_neg h4, if_neg h4]
    · rw [if_neg h16, if_neg h16]
theorem own_own (x : TS) (t : Nat) (f g : Clk) : (x.own t f).own t g = x.own t g := by
  unfold TS.own
  congr 1
  funext i
  dsimp only
  split <;> rfl
theorem own_self (x : TS) (t : Nat) : x.own t (x.m t) = x := by
  unfold TS.own
  congr 1
  funext i
  split
  · rename_i h; rw [h]
  · rfl
/-- a word's clock written, cell by cell -/
theorem tL_word (x : TS) {a : Nat} (ha : a < 6) (f : Clk) : ((((tL x).set (16 + a * 4) (.int .i64 (f 0))).set (16 + a * 4 + 1) (.int .i64 (f 1))).set (16 + a * 4 + 2) (.int .i64 (f 2))).set (16 + a * 4 + 3) (.int .i64 (f 3)) = tL ⟨x.m, fun i => if i = a then f else x.wd i⟩ := by
  apply List.ext_getElem?
  intro c
  by_cases hc : c < 40
  · rw [tL_at _ hc]
    by_cases h0 : c = 16 + a * 4
    · subst h0
      rw [List.getElem?_set_ne (by omega), List.getElem?_set_ne (by omega), List.getElem?_set_ne (by omega), List.getElem?_set_self (by simp [tL, ints]; omega)]
      have := tC_w ⟨x.m, fun i => if i = a then f else x.wd i⟩ (a := a) (i := 0) (by omega)
      rw [show 16 + (a * 4 + 0) = 16 + a * 4 by omega] at this
      rw [this]
      simp
    by_cases h1 : c = 16 + a * 4 + 1
    · subst h1
      rw [List.getElem?_set_ne (by omega), List.getElem?_set_ne (by omega), List.getElem?_set_self (by simp [tL, ints]; omega)]
      have := tC_w ⟨x.m, fun i => if i = a then f else x.wd i⟩ (a := a) (i := 1) (by omega)
      rw [show 16 + (a * 4 + 1) = 16 + a * 4 + 1 by omega] at this
      rw [this]
      simp
    by_cases h2 : c = 16 + a * 4 + 2
    · subst h2
      rw [List.getElem?_set_ne (by omega), List.getElem?_set_self (by simp [tL, ints]; omega)]
      have := tC_w ⟨x.m, fun i => if i = a then f else x.wd i⟩ (a := a) (i := 2) (by omega)
      rw [show 16 + (a * 4 + 2) = 16 + a * 4 + 2 by omega] at this
      rw [this]
      simp
    by_cases h3 : c = 16 + a * 4 + 3
    · subst h3
      rw [List.getElem?_set_self (by simp [tL, ints]; omega)]
      have := tC_w ⟨x.m, fun i => if i = a then f else x.wd i⟩ (a := a) (i := 3) (by omega)
      rw [show 16 + (a * 4 + 3) = 16 + a * 4 + 3 by omega] at this
      rw [this]
      simp
    rw [List.getElem?_set_ne (Ne.symm h3), List.getElem?_set_ne (Ne.symm h2), List.getElem?_set_ne (Ne.symm h1), List.getElem?_set_ne (Ne.symm h0), tL_at _ hc]
    congr 2
    unfold tC
    by_cases h16 : c < 16
    · rw [if_pos h16, if_pos h16]
    · rw [if_neg h16, if_neg h16]
      dsimp only
      rw [if_neg (by omega)]
  · rw [List.getElem?_eq_none (by simp [tL, ints]; omega), List.getElem?_eq_none (by simp [tL, ints]; omega)]
theorem ck_one (a b c d : Int) : (#[.int .i64 a, .int .i64 b, .int .i64 c, .int .i64 d] : Array Value).all (·.oneCell') = true := by simp [Value.oneCell']
theorem size_ck : (Try.prog.info? 173).map (·.size) = some 4 := by kernel_rfl
theorem idx4_0 (a b c d : Int) (w : World) : (Instr.index 173 (.agg #[.int .i64 a, .int .i64 b, .int .i64 c, .int .i64 d]) (.int .i64 0)).run Try.prog w = .ok (.int .i64 a) w := by simp [Instr.index, asIntOf, part, go_sem]
theorem idx4_1 (a b c d : Int) (w : World) : (Instr.index 173 (.agg #[.int .i64 a, .int .i64 b, .int .i64 c, .int .i64 d]) (.int .i64 1)).run Try.prog w = .ok (.int .i64 b) w := by simp [Instr.index, asIntOf, part, go_sem]
theorem idx4_2 (a b c d : Int) (w : World) : (Instr.index 173 (.agg #[.int .i64 a, .int .i64 b, .int .i64 c, .int .i64 d]) (.int .i64 2)).run Try.prog w = .ok (.int .i64 c) w := by simp [Instr.index, asIntOf, part, go_sem]
theorem idx4_3 (a b c d : Int) (w : World) : (Instr.index 173 (.agg #[.int .i64 a, .int .i64 b, .int .i64 c, .int .i64 d]) (.int .i64 3)).run Try.prog w = .ok (.int .i64 d) w := by simp [Instr.index, asIntOf, part, go_sem]
theorem w64 (z : Int) : IntKind.i64.wrap z = wrap64 z := by simp only [wrap64, IntKind.wrap_i64]
def fjC (b g : Clk) (j : Nat) : Clk := fun k => if k < j then maxC b g k else b k
end Go.Proofs.Ytgbopmgeicokoaa
