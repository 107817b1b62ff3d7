/-
  races.node.races: an event's races, by the numbers kept beside a node.
-/
import Derived.Test.YtgbopmgeicokoaaTickn
import Derived.Test.YtgbopmgeicokoaaFre
import Derived.Test.YtgbopmgeicokoaaClk0
namespace Go.Proofs.Ytgbopmgeicokoaa
open Go.RowKit
set_option linter.unusedSimpArgs false
set_option linter.unusedVariables false

def kdOf (q : Nat) : Int := if q = 3 then 9 else (q + 1 : Nat)
/-- the last numbers as they lie in a picture -/
def lastC (la : Int → Nat → Nat → Int) (c : Nat) : Int := la (kdOf (c % 4)) (c / 16) (c / 4 % 4)
def lastL (la : Int → Nat → Nat → Int) : List Value := ints ((List.range 96).map (lastC la))
theorem lastL_len (la : Int → Nat → Nat → Int) : (lastL la).length = 96 := by simp [lastL, ints]
theorem lastL_at (la : Int → Nat → Nat → Int) {c : Nat} (h : c < 96) : (lastL la)[c]? = some (.int .i64 (lastC la c)) := by
  unfold lastL
  exact ints_get (by simp [h])
theorem lastC_of (la : Int → Nat → Nat → Int) {a t q : Nat} (ht : t < 4) (hq : q < 4) : lastC la (a * 16 + t * 4 + q) = la (kdOf q) a t := by
  unfold lastC
  rw [show (a * 16 + t * 4 + q) % 4 = q by omega, show (a * 16 + t * 4 + q) / 16 = a by omega, show (a * 16 + t * 4 + q) / 4 % 4 = t by omega]
def setL (la : Int → Nat → Nat → Int) (q a t : Nat) (v : Int) : Int → Nat → Nat → Int := fun kd b u => if kd = kdOf q ∧ b = a ∧ u = t then v else la kd b u
theorem kdOf_inj {p q : Nat} (hp : p < 4) (hq : q < 4) (h : kdOf p = kdOf q) : p = q := by
  unfold kdOf at h
  split at h <;> split at h <;> omega
theorem lastL_set (la : Int → Nat → Nat → Int) {a t q : Nat} (ht : t < 4) (hq : q < 4) (ha : a < 6) (v : Int) : (lastL la).set (a * 16 + t * 4 + q) (.int .i64 v) = lastL (setL la q a t v) := by
  apply List.ext_getElem?
  intro c
  by_cases hc : c < 96
  · rw [lastL_at _ hc]
    by_cases he : c = a * 16 + t * 4 + q
    · subst he
      rw [List.getElem?_set_self (by rw [lastL_len]; exact hc), lastC_of _ ht hq]
      unfold setL
      rw [if_pos ⟨rfl, rfl, rfl⟩]
    · rw [List.getElem?_set_ne (Ne.symm he), lastL_at _ hc]
      unfold lastC setL
      rw [if_neg]
      rintro ⟨h1, h2, h3⟩
      have := kdOf_inj (by omega) hq h1
      omega
  · rw [List.getElem?_eq_none (by simp [lastL, ints]; omega), List.getElem?_eq_none (by simp [lastL, ints]; omega)]
/-- the numbers kept beside a node, in its block -/
structure NB (W : World) (gn : Nat) (pre post : List Value) (x : TS) (la : Int → Nat → Nat → Int) : Prop where
  p : pre.length = 30
  b : Blk W gn 214 (pre ++ (tL x ++ (lastL la ++ post)))
section
variable {W W' : World} {gn : Nat} {pre post : List Value} {x : TS} {la : Int → Nat → Nat → Int}
theorem NB.tb (h : NB W gn pre post x la) : TB W gn pre (lastL la ++ post) (tL x) := ⟨h.p, tL_len x, h.b⟩
theorem NB.of {y : TS} (h : TB W gn pre (lastL la ++ post) (tL y)) : NB W gn pre post y la := ⟨h.1, h.2.2⟩
theorem NB.on (h : NB W gn pre post x la) (hb : Below W.heap.size W W') : NB W' gn pre post x la := ⟨h.p, h.b.below hb h.b.lt⟩
theorem NB.last (h : NB W gn pre post x la) {c : Nat} (hc : c < 96) : W.cell? ⟨gn, 70 + c, none⟩ = some (.int .i64 (lastC la c)) := by
  refine h.b.cell ?_
  rw [List.getElem?_append_right (by rw [h.p]; omega), h.p, List.getElem?_append_right (by rw [tL_len]; omega), tL_len, List.getElem?_append_left (by rw [lastL_len]; omega), show 70 + c - 30 - 40 = c by omega]
  exact lastL_at la hc
theorem NB.lastq (h : NB W gn pre post x la) {a t q i : Nat} (hi : i = 70 + (a * 16 + t * 4 + q)) (ha : a < 6) (ht : t < 4) (hq : q < 4) : W.cell? ⟨gn, i, none⟩ = some (.int .i64 (la (kdOf q) a t)) := by
  subst hi
  rw [h.last (by omega), lastC_of _ ht hq]
theorem NB.put (h : NB W gn pre post x la) {a t q i : Nat} (hi : i = 70 + (a * 16 + t * 4 + q)) (ha : a < 6) (ht : t < 4) (hq : q < 4) (v : Int) : NB (W.setCell ⟨gn, i, none⟩ (.int .i64 v)) gn pre post x (setL la q a t v) := by
  subst hi
  refine ⟨h.p, ?_⟩
  have h1 := h.b.set_ (70 + (a * 16 + t * 4 + q)) (.int .i64 v)
  rw [List.set_append_right _ _ (by rw [h.p]; omega), h.p, List.set_append_right _ _ (by rw [tL_len]; omega), tL_len, List.set_append_left _ _ (by rw [lastL_len]; omega), show 70 + (a * 16 + t * 4 + q) - 30 - 40 = a * 16 + t * 4 + q by omega, lastL_set la ht hq ha] at h1
  exact h1
end
set_option maxRecDepth 100000 in
set_option maxHeartbeats 2000000 in
theorem late_any (W : World) (g5 g7 g8 q t : Nat) (m v : Int) (h5 : W.cell? ⟨g5, t, none⟩ = some (.int .i64 m)) (h7 : W.cell? ⟨g7, 0, none⟩ = some (.int .i64 t)) (h8 : W.cell? ⟨g8, q, none⟩ = some (.int .i64 v)) (ht : t < 4) (hq : q < 4) :
    Calls Try.prog 125 #[.int .i64 q, .pointer (some ⟨g5, 0, none⟩), .pointer (some ⟨g7, 0, none⟩), .pointer (some ⟨g8, 0, none⟩)] W (BoolR (decide (m < v)) W) := by
  have e0 : (0 : Int) ≤ t := by omega
  have e1 : (t : Int) < 4 := by omega
  have e2 : (0 : Int) ≤ q := by omega
  have e3 : (q : Int) < 4 := by omega
  go_enter Try.func125, Try.ntmps125
  go_upto_region 1 with fail
  go_quiet (fail)
  go_wp2_with fail
  go_ret
  exact ⟨rfl, (Below.refl _ _).drewN _⟩
end Go.Proofs.Ytgbopmgeicokoaa
