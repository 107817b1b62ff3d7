/-
  machine.Move.
-/
import Derived.Test.YtjnmlgfkiebkgaaLms
import Derived.Test.YtjnmlgfkiebkgaaLcl
namespace Go.Proofs.Ytjnmlgfkiebkgaa
open Go.RowKit
set_option linter.unusedVariables false
set_option linter.unusedSimpArgs false

/-- what a move answers, and leaves -/
def MvR (B : Nat) (M : ML) (W : World) (r : Bool × Mc) (e : Ending) (w' : World) : Prop := e = .returned (.bool r.1) ∧ (∃ M', M'.x = M.x ∧ MM w' B M' r.2) ∧ Bk B W w'
theorem info_cal : (Try.prog.info? 62).map (fun i => (i.zero, i.size, i.bytes)) = some (some (.agg #[.int .i64 0, .int .i64 0, .int .i64 0, .int .i64 0, .int .i64 0, .int .i64 0, .int .i64 0, .int .i64 0, .int .i64 0]), 9, 72) := by kernel_rfl
theorem cal_one (a : Cal) : ∀ u ∈ calL a, u.oneCell' = true := by intro u hu; simp [calL] at hu; rcases hu with h | h | h | h | h | h | h | h | h <;> subst h <;> rfl
theorem nilF_eq (w : World) : (binOp .eql 131 .nilFunc .nilFunc).run Try.prog w = .ok (.bool true) w := by kernel_rfl
theorem funF_eq (f : Fn) (a b : Array Value) (w : World) : (binOp .eql 131 (.func f a b) .nilFunc).run Try.prog w = .ok (.bool false) w := by kernel_rfl
section
variable {W : World} {B : Nat} {M : ML} {m : Mc} {t : Nat} {h : Th} {p : Tp}
set_option maxRecDepth 100000 in
set_option maxHeartbeats 4000000 in
theorem move_full (H : MM W B M m) (hlog : m.log.length ≤ m.moves) (hm : 65536 ≤ m.moves) (vth vop varg vdat : Int) :
    Calls Try.prog 29 #[.pointer (some ⟨M.x, 0, none⟩), .agg #[.int .i64 vth, .int .i64 vop, .int .i64 varg, .int .i64 vdat]] W (MvR B M W (false, m)) := by
  have hn0 : ((m.ths.length : Int) == 0) = false := beq_eq_false_iff_ne.2 (by have := H.nt.1; omega)
  have hm0 : (0 : Int) ≤ m.moves := by omega
  have hsW : B ≤ W.heap.size := by obtain ⟨_, _, _, hx⟩ := H.xb; exact Nat.le_trans H.bx (Nat.le_of_lt hx.lt)
  obtain ⟨th0, now0, us0, hx⟩ := H.xb
  have x8 : W.cell? ⟨M.x, 8, none⟩ = some (.slice (some ⟨M.sg, 0, none⟩) m.ths.length M.sk) := hx.cell rfl
  have x9 : W.cell? ⟨M.x, 9, none⟩ = some (.int .i64 m.moves) := hx.cell rfl
  have f9 := hx.frozen 9
  have lx := hx.lt
  have HB := Lib.hid H.bx
  have hnm := H.nm.2.1
  have hmv : decide ((65536 : Int) ≤ m.moves) = true := by simp; omega
  have HM := Lib.hid H
  clear H hx
  go_enter Try.func29, Try.ntmps29
  go_wp2_with fail
  go_ret
  exact ⟨rfl, ⟨M, rfl, HM.out.on ((Below.refl _ _).alloc (Nat.le_refl _) _)⟩, (Bk.refl _ _).alloc hsW _⟩
set_option maxRecDepth 100000 in
set_option maxHeartbeats 4000000 in
theorem move_neg (H : MM W B M m) (hlog : m.log.length ≤ m.moves) (hm : m.moves < 65536) (vth vop : Int) (hn : vth < 0) (varg vdat : Int) :
    Calls Try.prog 29 #[.pointer (some ⟨M.x, 0, none⟩), .agg #[.int .i64 vth, .int .i64 vop, .int .i64 varg, .int .i64 vdat]] W (MvR B M W (false, { m with moves := m.moves + 1 })) := by
  have hn0 : ((m.ths.length : Int) == 0) = false := beq_eq_false_iff_ne.2 (by have := H.nt.1; omega)
  have hm0 : (0 : Int) ≤ m.moves := by omega
  have hsW : B ≤ W.heap.size := by obtain ⟨_, _, _, hx⟩ := H.xb; exact Nat.le_trans H.bx (Nat.le_of_lt hx.lt)
  obtain ⟨th0, now0, us0, hx⟩ := H.xb
  have x8 : W.cell? ⟨M.x, 8, none⟩ = some (.slice (some ⟨M.sg, 0, none⟩) m.ths.length M.sk) := hx.cell rfl
  have x9 : W.cell? ⟨M.x, 9, none⟩ = some (.int .i64 m.moves) := hx.cell rfl
  have f9 := hx.frozen 9
  have lx := hx.lt
  have HB := Lib.hid H.bx
  have hnm := H.nm.2.1
  have hmv : decide ((65536 : Int) ≤ m.moves) = false := by simp; omega
  have H2 := (H.tick (by omega)).on (W' := (W.setCell ⟨M.x, 9, none⟩ (.int .i64 (m.moves + 1))).alloc (.cells #[.int .i64 vth, .int .i64 vop, .int .i64 varg, .int .i64 vdat] 78)) ((Below.refl _ _).alloc (Nat.le_refl _) _)
  have hB2 : Bk B W ((W.setCell ⟨M.x, 9, none⟩ (.int .i64 (m.moves + 1))).alloc (.cells #[.int .i64 vth, .int .i64 vop, .int .i64 varg, .int .i64 vdat] 78)) := ((Bk.refl _ _).setCell (p := ⟨M.x, 9, none⟩) H.bx hx rfl _).alloc (by simpa using hsW) _
  have hk2 : Blk ((W.setCell ⟨M.x, 9, none⟩ (.int .i64 (m.moves + 1))).alloc (.cells #[.int .i64 vth, .int .i64 vop, .int .i64 varg, .int .i64 vdat] 78)) W.heap.size 78 [.int .i64 vth, .int .i64 vop, .int .i64 varg, .int .i64 vdat] := by
    have := Blk.new (W.setCell ⟨M.x, 9, none⟩ (.int .i64 (m.moves + 1))) 78 [.int .i64 vth, .int .i64 vop, .int .i64 varg, .int .i64 vdat]
    have hz : (W.setCell ⟨M.x, 9, none⟩ (.int .i64 (m.moves + 1))).heap.size = W.heap.size := by simp
    rw [hz] at this
    exact this
  clear H hx
  go_enter Try.func29, Try.ntmps29
  go_upto_region 5 with fail
  generalize (W.setCell ⟨M.x, 9, none⟩ (.int .i64 (m.moves + 1))).alloc (.cells #[.int .i64 vth, .int .i64 vop, .int .i64 varg, .int .i64 vdat] 78) = W2 at H2 hB2 hk2 ⊢
  clear x8 x9 f9 lx
  obtain ⟨th1, now1, us1, hx⟩ := H2.xb
  have x8 : W2.cell? ⟨M.x, 8, none⟩ = some (.slice (some ⟨M.sg, 0, none⟩) m.ths.length M.sk) := hx.cell rfl
  have x7 : W2.cell? ⟨M.x, 7, none⟩ = some (.map (some M.kb)) := hx.cell rfl
  have x10 : W2.cell? ⟨M.x, 10, none⟩ = some M.vc := hx.cell rfl
  have fx10 := hx.frozen 10
  have b0 : W2.cell? ⟨W.heap.size, 0, none⟩ = some (.int .i64 vth) := hk2.cell rfl
  have b1 : W2.cell? ⟨W.heap.size, 1, none⟩ = some (.int .i64 vop) := hk2.cell rfl
  have b2 : W2.cell? ⟨W.heap.size, 2, none⟩ = some (.int .i64 varg) := hk2.cell rfl
  have b3 : W2.cell? ⟨W.heap.size, 3, none⟩ = some (.int .i64 vdat) := hk2.cell rfl
  have lx := hx.lt
  have lb := hk2.lt
  have ls := H2.se.lt
  have HX := Lib.hid hx
  have HBk := Lib.hid hk2
  have HB2 := Lib.hid hB2
  have HM2 := Lib.hid H2
  clear H2 hx hk2 hB2
  have dt0 : decide (vth < 0) = true := by simpa using hn
  go_region
  all_goals (
    go_wp2_with fail
    go_ret
    exact ⟨rfl, ⟨M, rfl, HM2.out.drew⟩, HB2.out.drew⟩)
set_option maxRecDepth 100000 in
set_option maxHeartbeats 4000000 in
theorem move_big (H : MM W B M m) (hlog : m.log.length ≤ m.moves) (hm : m.moves < 65536) (vth vop : Int) (hn : 0 ≤ vth) (hb : m.ths.length ≤ vth) (varg vdat : Int) :
    Calls Try.prog 29 #[.pointer (some ⟨M.x, 0, none⟩), .agg #[.int .i64 vth, .int .i64 vop, .int .i64 varg, .int .i64 vdat]] W (MvR B M W (false, { m with moves := m.moves + 1 })) := by
  have hn0 : ((m.ths.length : Int) == 0) = false := beq_eq_false_iff_ne.2 (by have := H.nt.1; omega)
  have hm0 : (0 : Int) ≤ m.moves := by omega
  have hsW : B ≤ W.heap.size := by obtain ⟨_, _, _, hx⟩ := H.xb; exact Nat.le_trans H.bx (Nat.le_of_lt hx.lt)
  obtain ⟨th0, now0, us0, hx⟩ := H.xb
  have x8 : W.cell? ⟨M.x, 8, none⟩ = some (.slice (some ⟨M.sg, 0, none⟩) m.ths.length M.sk) := hx.cell rfl
  have x9 : W.cell? ⟨M.x, 9, none⟩ = some (.int .i64 m.moves) := hx.cell rfl
  have f9 := hx.frozen 9
  have lx := hx.lt
  have HB := Lib.hid H.bx
  have hnm := H.nm.2.1
  have hmv : decide ((65536 : Int) ≤ m.moves) = false := by simp; omega
  have H2 := (H.tick (by omega)).on (W' := (W.setCell ⟨M.x, 9, none⟩ (.int .i64 (m.moves + 1))).alloc (.cells #[.int .i64 vth, .int .i64 vop, .int .i64 varg, .int .i64 vdat] 78)) ((Below.refl _ _).alloc (Nat.le_refl _) _)
  have hB2 : Bk B W ((W.setCell ⟨M.x, 9, none⟩ (.int .i64 (m.moves + 1))).alloc (.cells #[.int .i64 vth, .int .i64 vop, .int .i64 varg, .int .i64 vdat] 78)) := ((Bk.refl _ _).setCell (p := ⟨M.x, 9, none⟩) H.bx hx rfl _).alloc (by simpa using hsW) _
  have hk2 : Blk ((W.setCell ⟨M.x, 9, none⟩ (.int .i64 (m.moves + 1))).alloc (.cells #[.int .i64 vth, .int .i64 vop, .int .i64 varg, .int .i64 vdat] 78)) W.heap.size 78 [.int .i64 vth, .int .i64 vop, .int .i64 varg, .int .i64 vdat] := by
    have := Blk.new (W.setCell ⟨M.x, 9, none⟩ (.int .i64 (m.moves + 1))) 78 [.int .i64 vth, .int .i64 vop, .int .i64 varg, .int .i64 vdat]
    have hz : (W.setCell ⟨M.x, 9, none⟩ (.int .i64 (m.moves + 1))).heap.size = W.heap.size := by simp
    rw [hz] at this
    exact this
  clear H hx
  go_enter Try.func29, Try.ntmps29
  go_upto_region 5 with fail
  generalize (W.setCell ⟨M.x, 9, none⟩ (.int .i64 (m.moves + 1))).alloc (.cells #[.int .i64 vth, .int .i64 vop, .int .i64 varg, .int .i64 vdat] 78) = W2 at H2 hB2 hk2 ⊢
  clear x8 x9 f9 lx
  obtain ⟨th1, now1, us1, hx⟩ := H2.xb
  have x8 : W2.cell? ⟨M.x, 8, none⟩ = some (.slice (some ⟨M.sg, 0, none⟩) m.ths.length M.sk) := hx.cell rfl
  have x7 : W2.cell? ⟨M.x, 7, none⟩ = some (.map (some M.kb)) := hx.cell rfl
  have x10 : W2.cell? ⟨M.x, 10, none⟩ = some M.vc := hx.cell rfl
  have fx10 := hx.frozen 10
  have b0 : W2.cell? ⟨W.heap.size, 0, none⟩ = some (.int .i64 vth) := hk2.cell rfl
  have b1 : W2.cell? ⟨W.heap.size, 1, none⟩ = some (.int .i64 vop) := hk2.cell rfl
  have b2 : W2.cell? ⟨W.heap.size, 2, none⟩ = some (.int .i64 varg) := hk2.cell rfl
  have b3 : W2.cell? ⟨W.heap.size, 3, none⟩ = some (.int .i64 vdat) := hk2.cell rfl
  have lx := hx.lt
  have lb := hk2.lt
  have ls := H2.se.lt
  have HX := Lib.hid hx
  have HBk := Lib.hid hk2
  have HB2 := Lib.hid hB2
  have HM2 := Lib.hid H2
  clear H2 hx hk2 hB2
  have dt0 : decide (vth < 0) = false := by simp; omega
  have dtn : decide ((m.ths.length : Int) ≤ vth) = true := by simpa using hb
  go_region
  all_goals (
    go_wp2_with fail
    go_ret
    exact ⟨rfl, ⟨M, rfl, HM2.out.drew⟩, HB2.out.drew⟩)
set_option maxRecDepth 100000 in
set_option maxHeartbeats 4000000 in
theorem move_step (H : MM W B M m) (hlog : m.log.length ≤ m.moves) (K : KOk m.kd) (hm : m.moves < 65536) (hh : m.ths[t]? = some h) (hp : h.task = some p) (varg vdat : Int) :
    Calls Try.prog 29 #[.pointer (some ⟨M.x, 0, none⟩), .agg #[.int .i64 t, .int .i64 0, .int .i64 varg, .int .i64 vdat]] W (MvR B M W (true, m.step t h p)) := by
  have hn0 : ((m.ths.length : Int) == 0) = false := beq_eq_false_iff_ne.2 (by have := H.nt.1; omega)
  have hm0 : (0 : Int) ≤ m.moves := by omega
  have hsW : B ≤ W.heap.size := by obtain ⟨_, _, _, hx⟩ := H.xb; exact Nat.le_trans H.bx (Nat.le_of_lt hx.lt)
  obtain ⟨th0, now0, us0, hx⟩ := H.xb
  have x8 : W.cell? ⟨M.x, 8, none⟩ = some (.slice (some ⟨M.sg, 0, none⟩) m.ths.length M.sk) := hx.cell rfl
  have x9 : W.cell? ⟨M.x, 9, none⟩ = some (.int .i64 m.moves) := hx.cell rfl
  have f9 := hx.frozen 9
  have lx := hx.lt
  have HB := Lib.hid H.bx
  have hnm := H.nm.2.1
  have hmv : decide ((65536 : Int) ≤ m.moves) = false := by simp; omega
  have H2 := (H.tick (by omega)).on (W' := (W.setCell ⟨M.x, 9, none⟩ (.int .i64 (m.moves + 1))).alloc (.cells #[.int .i64 t, .int .i64 0, .int .i64 varg, .int .i64 vdat] 78)) ((Below.refl _ _).alloc (Nat.le_refl _) _)
  have hB2 : Bk B W ((W.setCell ⟨M.x, 9, none⟩ (.int .i64 (m.moves + 1))).alloc (.cells #[.int .i64 t, .int .i64 0, .int .i64 varg, .int .i64 vdat] 78)) := ((Bk.refl _ _).setCell (p := ⟨M.x, 9, none⟩) H.bx hx rfl _).alloc (by simpa using hsW) _
  have hk2 : Blk ((W.setCell ⟨M.x, 9, none⟩ (.int .i64 (m.moves + 1))).alloc (.cells #[.int .i64 t, .int .i64 0, .int .i64 varg, .int .i64 vdat] 78)) W.heap.size 78 [.int .i64 t, .int .i64 0, .int .i64 varg, .int .i64 vdat] := by
    have := Blk.new (W.setCell ⟨M.x, 9, none⟩ (.int .i64 (m.moves + 1))) 78 [.int .i64 t, .int .i64 0, .int .i64 varg, .int .i64 vdat]
    have hz : (W.setCell ⟨M.x, 9, none⟩ (.int .i64 (m.moves + 1))).heap.size = W.heap.size := by simp
    rw [hz] at this
    exact this
  clear H hx
  go_enter Try.func29, Try.ntmps29
  go_upto_region 5 with fail
  generalize (W.setCell ⟨M.x, 9, none⟩ (.int .i64 (m.moves + 1))).alloc (.cells #[.int .i64 t, .int .i64 0, .int .i64 varg, .int .i64 vdat] 78) = W2 at H2 hB2 hk2 ⊢
  clear x8 x9 f9 lx
  obtain ⟨th1, now1, us1, hx⟩ := H2.xb
  have x8 : W2.cell? ⟨M.x, 8, none⟩ = some (.slice (some ⟨M.sg, 0, none⟩) m.ths.length M.sk) := hx.cell rfl
  have x7 : W2.cell? ⟨M.x, 7, none⟩ = some (.map (some M.kb)) := hx.cell rfl
  have x10 : W2.cell? ⟨M.x, 10, none⟩ = some M.vc := hx.cell rfl
  have fx10 := hx.frozen 10
  have b0 : W2.cell? ⟨W.heap.size, 0, none⟩ = some (.int .i64 t) := hk2.cell rfl
  have b1 : W2.cell? ⟨W.heap.size, 1, none⟩ = some (.int .i64 0) := hk2.cell rfl
  have b2 : W2.cell? ⟨W.heap.size, 2, none⟩ = some (.int .i64 varg) := hk2.cell rfl
  have b3 : W2.cell? ⟨W.heap.size, 3, none⟩ = some (.int .i64 vdat) := hk2.cell rfl
  have lx := hx.lt
  have lb := hk2.lt
  have ls := H2.se.lt
  have HX := Lib.hid hx
  have HBk := Lib.hid hk2
  have HB2 := Lib.hid hB2
  have s0 : W2.cell? ⟨M.sg, t * 5, none⟩ = some (.iface (tkP p) (.pointer (some ⟨M.tb t, 0, none⟩))) := H2.se.cell (by
    have := thVals_get (M := M) 0 hh 0 (by omega)
    rw [show t * 5 + 0 = t * 5 from rfl] at this
    rw [this]
    show some (tkV M (0 + t) h.task) = _
    rw [hp]
    rw [Nat.zero_add]
    rfl)
  have htn : t < m.ths.length := (List.getElem?_eq_some_iff.1 hh).1
  have ntn : (t : Int) < m.ths.length := by omega
  have nt0 : (0 : Int) ≤ t := by omega
  have dt0 : decide ((t : Int) < 0) = false := by simp
  have dtn : decide ((m.ths.length : Int) ≤ t) = false := by simp; omega
  have HM2 := Lib.hid H2
  clear H2 hx hk2 hB2
  go_region
  all_goals (
    go_upto_region 7 with fail
    go_region
    all_goals (
      go_wp2_with fail
      refine (step_any K HM2.out.drew.drew hlog hh hp).mono ?_
      rintro e w3 ⟨rfl, hM3, hb3⟩
      have HM3 := Lib.hid hM3
      have HB3 := Lib.hid (HB2.out.drew.drew.trans hb3)
      clear hM3 hb3
      go_wp2_with fail
      go_ret
      exact ⟨rfl, HM3.out, HB3.out⟩))
set_option maxRecDepth 100000 in
set_option maxHeartbeats 4000000 in
theorem move_busy (H : MM W B M m) (hlog : m.log.length ≤ m.moves) (hm : m.moves < 65536) (vop : Int) (hop : vop ≠ 0) (hh : m.ths[t]? = some h) (hp : h.task = some p) (varg vdat : Int) :
    Calls Try.prog 29 #[.pointer (some ⟨M.x, 0, none⟩), .agg #[.int .i64 t, .int .i64 vop, .int .i64 varg, .int .i64 vdat]] W (MvR B M W (false, { m with moves := m.moves + 1 })) := by
  have hn0 : ((m.ths.length : Int) == 0) = false := beq_eq_false_iff_ne.2 (by have := H.nt.1; omega)
  have hm0 : (0 : Int) ≤ m.moves := by omega
  have hsW : B ≤ W.heap.size := by obtain ⟨_, _, _, hx⟩ := H.xb; exact Nat.le_trans H.bx (Nat.le_of_lt hx.lt)
  obtain ⟨th0, now0, us0, hx⟩ := H.xb
  have x8 : W.cell? ⟨M.x, 8, none⟩ = some (.slice (some ⟨M.sg, 0, none⟩) m.ths.length M.sk) := hx.cell rfl
  have x9 : W.cell? ⟨M.x, 9, none⟩ = some (.int .i64 m.moves) := hx.cell rfl
  have f9 := hx.frozen 9
  have lx := hx.lt
  have HB := Lib.hid H.bx
  have hnm := H.nm.2.1
  have hmv : decide ((65536 : Int) ≤ m.moves) = false := by simp; omega
  have H2 := (H.tick (by omega)).on (W' := (W.setCell ⟨M.x, 9, none⟩ (.int .i64 (m.moves + 1))).alloc (.cells #[.int .i64 t, .int .i64 vop, .int .i64 varg, .int .i64 vdat] 78)) ((Below.refl _ _).alloc (Nat.le_refl _) _)
  have hB2 : Bk B W ((W.setCell ⟨M.x, 9, none⟩ (.int .i64 (m.moves + 1))).alloc (.cells #[.int .i64 t, .int .i64 vop, .int .i64 varg, .int .i64 vdat] 78)) := ((Bk.refl _ _).setCell (p := ⟨M.x, 9, none⟩) H.bx hx rfl _).alloc (by simpa using hsW) _
  have hk2 : Blk ((W.setCell ⟨M.x, 9, none⟩ (.int .i64 (m.moves + 1))).alloc (.cells #[.int .i64 t, .int .i64 vop, .int .i64 varg, .int .i64 vdat] 78)) W.heap.size 78 [.int .i64 t, .int .i64 vop, .int .i64 varg, .int .i64 vdat] := by
    have := Blk.new (W.setCell ⟨M.x, 9, none⟩ (.int .i64 (m.moves + 1))) 78 [.int .i64 t, .int .i64 vop, .int .i64 varg, .int .i64 vdat]
    have hz : (W.setCell ⟨M.x, 9, none⟩ (.int .i64 (m.moves + 1))).heap.size = W.heap.size := by simp
    rw [hz] at this
    exact this
  clear H hx
  go_enter Try.func29, Try.ntmps29
  go_upto_region 5 with fail
  generalize (W.setCell ⟨M.x, 9, none⟩ (.int .i64 (m.moves + 1))).alloc (.cells #[.int .i64 t, .int .i64 vop, .int .i64 varg, .int .i64 vdat] 78) = W2 at H2 hB2 hk2 ⊢
  clear x8 x9 f9 lx
  obtain ⟨th1, now1, us1, hx⟩ := H2.xb
  have x8 : W2.cell? ⟨M.x, 8, none⟩ = some (.slice (some ⟨M.sg, 0, none⟩) m.ths.length M.sk) := hx.cell rfl
  have x7 : W2.cell? ⟨M.x, 7, none⟩ = some (.map (some M.kb)) := hx.cell rfl
  have x10 : W2.cell? ⟨M.x, 10, none⟩ = some M.vc := hx.cell rfl
  have fx10 := hx.frozen 10
  have b0 : W2.cell? ⟨W.heap.size, 0, none⟩ = some (.int .i64 t) := hk2.cell rfl
  have b1 : W2.cell? ⟨W.heap.size, 1, none⟩ = some (.int .i64 vop) := hk2.cell rfl
  have b2 : W2.cell? ⟨W.heap.size, 2, none⟩ = some (.int .i64 varg) := hk2.cell rfl
  have b3 : W2.cell? ⟨W.heap.size, 3, none⟩ = some (.int .i64 vdat) := hk2.cell rfl
  have lx := hx.lt
  have lb := hk2.lt
  have ls := H2.se.lt
  have HX := Lib.hid hx
  have HBk := Lib.hid hk2
  have HB2 := Lib.hid hB2
  have s0 : W2.cell? ⟨M.sg, t * 5, none⟩ = some (.iface (tkP p) (.pointer (some ⟨M.tb t, 0, none⟩))) := H2.se.cell (by
    have := thVals_get (M := M) 0 hh 0 (by omega)
    rw [show t * 5 + 0 = t * 5 from rfl] at this
    rw [this]
    show some (tkV M (0 + t) h.task) = _
    rw [hp]
    rw [Nat.zero_add]
    rfl)
  have htn : t < m.ths.length := (List.getElem?_eq_some_iff.1 hh).1
  have ntn : (t : Int) < m.ths.length := by omega
  have nt0 : (0 : Int) ≤ t := by omega
  have dt0 : decide ((t : Int) < 0) = false := by simp
  have dtn : decide ((m.ths.length : Int) ≤ t) = false := by simp; omega
  have HM2 := Lib.hid H2
  clear H2 hx hk2 hB2
  have dop : (vop == 0) = false := by simpa using hop
  go_region
  all_goals (
    go_upto_region 7 with fail
    go_region
    all_goals (
      go_wp2_with fail
      go_ret
      exact ⟨rfl, ⟨M, rfl, HM2.out.drew.drew⟩, HB2.out.drew.drew⟩))
set_option maxRecDepth 100000 in
set_option maxHeartbeats 4000000 in
theorem move_idle (H : MM W B M m) (hlog : m.log.length ≤ m.moves) (hm : m.moves < 65536) (hh : m.ths[t]? = some h) (hp : h.task = none) (varg vdat : Int) :
    Calls Try.prog 29 #[.pointer (some ⟨M.x, 0, none⟩), .agg #[.int .i64 t, .int .i64 0, .int .i64 varg, .int .i64 vdat]] W (MvR B M W (false, { m with moves := m.moves + 1 })) := by
  have hn0 : ((m.ths.length : Int) == 0) = false := beq_eq_false_iff_ne.2 (by have := H.nt.1; omega)
  have hm0 : (0 : Int) ≤ m.moves := by omega
  have hsW : B ≤ W.heap.size := by obtain ⟨_, _, _, hx⟩ := H.xb; exact Nat.le_trans H.bx (Nat.le_of_lt hx.lt)
  obtain ⟨th0, now0, us0, hx⟩ := H.xb
  have x8 : W.cell? ⟨M.x, 8, none⟩ = some (.slice (some ⟨M.sg, 0, none⟩) m.ths.length M.sk) := hx.cell rfl
  have x9 : W.cell? ⟨M.x, 9, none⟩ = some (.int .i64 m.moves) := hx.cell rfl
  have f9 := hx.frozen 9
  have lx := hx.lt
  have HB := Lib.hid H.bx
  have hnm := H.nm.2.1
  have hmv : decide ((65536 : Int) ≤ m.moves) = false := by simp; omega
  have H2 := (H.tick (by omega)).on (W' := (W.setCell ⟨M.x, 9, none⟩ (.int .i64 (m.moves + 1))).alloc (.cells #[.int .i64 t, .int .i64 0, .int .i64 varg, .int .i64 vdat] 78)) ((Below.refl _ _).alloc (Nat.le_refl _) _)
  have hB2 : Bk B W ((W.setCell ⟨M.x, 9, none⟩ (.int .i64 (m.moves + 1))).alloc (.cells #[.int .i64 t, .int .i64 0, .int .i64 varg, .int .i64 vdat] 78)) := ((Bk.refl _ _).setCell (p := ⟨M.x, 9, none⟩) H.bx hx rfl _).alloc (by simpa using hsW) _
  have hk2 : Blk ((W.setCell ⟨M.x, 9, none⟩ (.int .i64 (m.moves + 1))).alloc (.cells #[.int .i64 t, .int .i64 0, .int .i64 varg, .int .i64 vdat] 78)) W.heap.size 78 [.int .i64 t, .int .i64 0, .int .i64 varg, .int .i64 vdat] := by
    have := Blk.new (W.setCell ⟨M.x, 9, none⟩ (.int .i64 (m.moves + 1))) 78 [.int .i64 t, .int .i64 0, .int .i64 varg, .int .i64 vdat]
    have hz : (W.setCell ⟨M.x, 9, none⟩ (.int .i64 (m.moves + 1))).heap.size = W.heap.size := by simp
    rw [hz] at this
    exact this
  clear H hx
  go_enter Try.func29, Try.ntmps29
  go_upto_region 5 with fail
  generalize (W.setCell ⟨M.x, 9, none⟩ (.int .i64 (m.moves + 1))).alloc (.cells #[.int .i64 t, .int .i64 0, .int .i64 varg, .int .i64 vdat] 78) = W2 at H2 hB2 hk2 ⊢
  clear x8 x9 f9 lx
  obtain ⟨th1, now1, us1, hx⟩ := H2.xb
  have x8 : W2.cell? ⟨M.x, 8, none⟩ = some (.slice (some ⟨M.sg, 0, none⟩) m.ths.length M.sk) := hx.cell rfl
  have x7 : W2.cell? ⟨M.x, 7, none⟩ = some (.map (some M.kb)) := hx.cell rfl
  have x10 : W2.cell? ⟨M.x, 10, none⟩ = some M.vc := hx.cell rfl
  have fx10 := hx.frozen 10
  have b0 : W2.cell? ⟨W.heap.size, 0, none⟩ = some (.int .i64 t) := hk2.cell rfl
  have b1 : W2.cell? ⟨W.heap.size, 1, none⟩ = some (.int .i64 0) := hk2.cell rfl
  have b2 : W2.cell? ⟨W.heap.size, 2, none⟩ = some (.int .i64 varg) := hk2.cell rfl
  have b3 : W2.cell? ⟨W.heap.size, 3, none⟩ = some (.int .i64 vdat) := hk2.cell rfl
  have lx := hx.lt
  have lb := hk2.lt
  have ls := H2.se.lt
  have HX := Lib.hid hx
  have HBk := Lib.hid hk2
  have HB2 := Lib.hid hB2
  have s0 : W2.cell? ⟨M.sg, t * 5, none⟩ = some .nilIface := H2.se.cell (by
    have := thVals_get (M := M) 0 hh 0 (by omega)
    rw [show t * 5 + 0 = t * 5 from rfl] at this
    rw [this]
    show some (tkV M (0 + t) h.task) = _
    rw [hp]
    skip
    rfl)
  have htn : t < m.ths.length := (List.getElem?_eq_some_iff.1 hh).1
  have ntn : (t : Int) < m.ths.length := by omega
  have nt0 : (0 : Int) ≤ t := by omega
  have dt0 : decide ((t : Int) < 0) = false := by simp
  have dtn : decide ((m.ths.length : Int) ≤ t) = false := by simp; omega
  have HM2 := Lib.hid H2
  clear H2 hx hk2 hB2
  go_region
  all_goals (
    go_upto_region 7 with fail
    go_region
    all_goals (
      go_wp2_with fail
      go_ret
      exact ⟨rfl, ⟨M, rfl, HM2.out.drew.drew⟩, HB2.out.drew.drew⟩))
set_option maxRecDepth 100000 in
set_option maxHeartbeats 4000000 in
theorem move_nokit (H : MM W B M m) (hlog : m.log.length ≤ m.moves) (hm : m.moves < 65536) (vop : Int) (hop : vop ≠ 0) (hvr : -9223372036854775808 ≤ vop ∧ vop ≤ 9223372036854775807) (hno : ∀ cv sv, kitF cv sv vop = .nilFunc) (hh : m.ths[t]? = some h) (hp : h.task = none) (varg vdat : Int) :
    Calls Try.prog 29 #[.pointer (some ⟨M.x, 0, none⟩), .agg #[.int .i64 t, .int .i64 vop, .int .i64 varg, .int .i64 vdat]] W (MvR B M W (false, { m with moves := m.moves + 1 })) := by
  have hn0 : ((m.ths.length : Int) == 0) = false := beq_eq_false_iff_ne.2 (by have := H.nt.1; omega)
  have hm0 : (0 : Int) ≤ m.moves := by omega
  have hsW : B ≤ W.heap.size := by obtain ⟨_, _, _, hx⟩ := H.xb; exact Nat.le_trans H.bx (Nat.le_of_lt hx.lt)
  obtain ⟨th0, now0, us0, hx⟩ := H.xb
  have x8 : W.cell? ⟨M.x, 8, none⟩ = some (.slice (some ⟨M.sg, 0, none⟩) m.ths.length M.sk) := hx.cell rfl
  have x9 : W.cell? ⟨M.x, 9, none⟩ = some (.int .i64 m.moves) := hx.cell rfl
  have f9 := hx.frozen 9
  have lx := hx.lt
  have HB := Lib.hid H.bx
  have hnm := H.nm.2.1
  have hmv : decide ((65536 : Int) ≤ m.moves) = false := by simp; omega
  have H2 := (H.tick (by omega)).on (W' := (W.setCell ⟨M.x, 9, none⟩ (.int .i64 (m.moves + 1))).alloc (.cells #[.int .i64 t, .int .i64 vop, .int .i64 varg, .int .i64 vdat] 78)) ((Below.refl _ _).alloc (Nat.le_refl _) _)
  have hB2 : Bk B W ((W.setCell ⟨M.x, 9, none⟩ (.int .i64 (m.moves + 1))).alloc (.cells #[.int .i64 t, .int .i64 vop, .int .i64 varg, .int .i64 vdat] 78)) := ((Bk.refl _ _).setCell (p := ⟨M.x, 9, none⟩) H.bx hx rfl _).alloc (by simpa using hsW) _
  have hk2 : Blk ((W.setCell ⟨M.x, 9, none⟩ (.int .i64 (m.moves + 1))).alloc (.cells #[.int .i64 t, .int .i64 vop, .int .i64 varg, .int .i64 vdat] 78)) W.heap.size 78 [.int .i64 t, .int .i64 vop, .int .i64 varg, .int .i64 vdat] := by
    have := Blk.new (W.setCell ⟨M.x, 9, none⟩ (.int .i64 (m.moves + 1))) 78 [.int .i64 t, .int .i64 vop, .int .i64 varg, .int .i64 vdat]
    have hz : (W.setCell ⟨M.x, 9, none⟩ (.int .i64 (m.moves + 1))).heap.size = W.heap.size := by simp
    rw [hz] at this
    exact this
  clear H hx
  go_enter Try.func29, Try.ntmps29
  go_upto_region 5 with fail
  generalize (W.setCell ⟨M.x, 9, none⟩ (.int .i64 (m.moves + 1))).alloc (.cells #[.int .i64 t, .int .i64 vop, .int .i64 varg, .int .i64 vdat] 78) = W2 at H2 hB2 hk2 ⊢
  clear x8 x9 f9 lx
  obtain ⟨th1, now1, us1, hx⟩ := H2.xb
  have x8 : W2.cell? ⟨M.x, 8, none⟩ = some (.slice (some ⟨M.sg, 0, none⟩) m.ths.length M.sk) := hx.cell rfl
  have x7 : W2.cell? ⟨M.x, 7, none⟩ = some (.map (some M.kb)) := hx.cell rfl
  have x10 : W2.cell? ⟨M.x, 10, none⟩ = some M.vc := hx.cell rfl
  have fx10 := hx.frozen 10
  have b0 : W2.cell? ⟨W.heap.size, 0, none⟩ = some (.int .i64 t) := hk2.cell rfl
  have b1 : W2.cell? ⟨W.heap.size, 1, none⟩ = some (.int .i64 vop) := hk2.cell rfl
  have b2 : W2.cell? ⟨W.heap.size, 2, none⟩ = some (.int .i64 varg) := hk2.cell rfl
  have b3 : W2.cell? ⟨W.heap.size, 3, none⟩ = some (.int .i64 vdat) := hk2.cell rfl
  have lx := hx.lt
  have lb := hk2.lt
  have ls := H2.se.lt
  have HX := Lib.hid hx
  have HBk := Lib.hid hk2
  have HB2 := Lib.hid hB2
  have s0 : W2.cell? ⟨M.sg, t * 5, none⟩ = some .nilIface := H2.se.cell (by
    have := thVals_get (M := M) 0 hh 0 (by omega)
    rw [show t * 5 + 0 = t * 5 from rfl] at this
    rw [this]
    show some (tkV M (0 + t) h.task) = _
    rw [hp]
    skip
    rfl)
  have htn : t < m.ths.length := (List.getElem?_eq_some_iff.1 hh).1
  have ntn : (t : Int) < m.ths.length := by omega
  have nt0 : (0 : Int) ≤ t := by omega
  have dt0 : decide ((t : Int) < 0) = false := by simp
  have dtn : decide ((m.ths.length : Int) ≤ t) = false := by simp; omega
  have HM2 := Lib.hid H2
  clear H2 hx hk2 hB2
  have nF := nilF_eq
  have dop : (vop == 0) = false := by simpa using hop
  obtain ⟨ko, hko, hkk⟩ := HM2.out.kit
  have hl := kit_look hkk (W := W2.drew.drew.drew) hko vop hvr
  have hl2 := kit_look hkk (W := W2.drew.drew) hko vop hvr
  rw [hno] at hl hl2
  go_region
  all_goals (
    go_upto_region 7 with fail
    go_region
    all_goals (
      go_upto_region 15 with fail
      go_region
      all_goals (
        go_wp2_with fail
        go_ret
        exact ⟨rfl, ⟨M, rfl, HM2.out.drew.drew.drew⟩, HB2.out.drew.drew.drew⟩)))
end
end Go.Proofs.Ytjnmlgfkiebkgaa
