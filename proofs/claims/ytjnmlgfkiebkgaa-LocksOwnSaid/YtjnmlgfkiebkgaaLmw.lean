/-
  machine.Move: calls begin.
-/
import Derived.Test.YtjnmlgfkiebkgaaLmv
namespace Go.Proofs.Ytjnmlgfkiebkgaa
open Go.RowKit
set_option linter.unusedVariables false
set_option linter.unusedSimpArgs false
section
variable {W : World} {B : Nat} {M : ML} {m : Mc} {t : Nat} {h : Th} {p : Tp}
set_option maxRecDepth 100000 in
set_option maxHeartbeats 4000000 in
theorem move120_0 (H : MM W B M m) (hlog : m.log.length ≤ m.moves) (hm : m.moves < 65536) (hh : m.ths[t]? = some h) (hp : h.task = none) (hal : h.alone = true) (varg vdat : Int) :
    Calls Try.prog 29 #[.pointer (some ⟨M.x, 0, none⟩), .agg #[.int .i64 t, .int .i64 120, .int .i64 varg, .int .i64 vdat]] W (MvR B M W (false, { m with moves := m.moves + 1 })) := by
  have hn0 : ((m.ths.length : Int) == 0) = false := beq_eq_false_iff_ne.2 (by have := H.nt.1; omega)
  have hm0 : (0 : Int) ≤ m.moves := by omega
  have hsW : B ≤ W.heap.size := by obtain ⟨_, _, _, hx⟩ := H.xb; exact Nat.le_trans H.bx (Nat.le_of_lt hx.lt)
  obtain ⟨th0, now0, us0, hx⟩ := H.xb
  have x8 : W.cell? ⟨M.x, 8, none⟩ = some (.slice (some ⟨M.sg, 0, none⟩) m.ths.length M.sk) := hx.cell rfl
  have x9 : W.cell? ⟨M.x, 9, none⟩ = some (.int .i64 m.moves) := hx.cell rfl
  have f9 := hx.frozen 9
  have lx := hx.lt
  have HB := Lib.hid H.bx
  have hnm := H.nm.2.1
  have hmv : decide ((65536 : Int) ≤ m.moves) = false := by simp; omega
  have H2 := (H.tick (by omega)).on (W' := (W.setCell ⟨M.x, 9, none⟩ (.int .i64 (m.moves + 1))).alloc (.cells #[.int .i64 t, .int .i64 120, .int .i64 varg, .int .i64 vdat] 78)) ((Below.refl _ _).alloc (Nat.le_refl _) _)
  have hB2 : Bk B W ((W.setCell ⟨M.x, 9, none⟩ (.int .i64 (m.moves + 1))).alloc (.cells #[.int .i64 t, .int .i64 120, .int .i64 varg, .int .i64 vdat] 78)) := ((Bk.refl _ _).setCell (p := ⟨M.x, 9, none⟩) H.bx hx rfl _).alloc (by simpa using hsW) _
  have hk2 : Blk ((W.setCell ⟨M.x, 9, none⟩ (.int .i64 (m.moves + 1))).alloc (.cells #[.int .i64 t, .int .i64 120, .int .i64 varg, .int .i64 vdat] 78)) W.heap.size 78 [.int .i64 t, .int .i64 120, .int .i64 varg, .int .i64 vdat] := by
    have := Blk.new (W.setCell ⟨M.x, 9, none⟩ (.int .i64 (m.moves + 1))) 78 [.int .i64 t, .int .i64 120, .int .i64 varg, .int .i64 vdat]
    have hz : (W.setCell ⟨M.x, 9, none⟩ (.int .i64 (m.moves + 1))).heap.size = W.heap.size := by simp
    rw [hz] at this
    exact this
  clear H hx
  go_enter Try.func29, Try.ntmps29
  go_upto_region 5 with fail
  generalize (W.setCell ⟨M.x, 9, none⟩ (.int .i64 (m.moves + 1))).alloc (.cells #[.int .i64 t, .int .i64 120, .int .i64 varg, .int .i64 vdat] 78) = W2 at H2 hB2 hk2 ⊢
  clear x8 x9 f9 lx
  obtain ⟨th1, now1, us1, hx⟩ := H2.xb
  have x8 : W2.cell? ⟨M.x, 8, none⟩ = some (.slice (some ⟨M.sg, 0, none⟩) m.ths.length M.sk) := hx.cell rfl
  have x7 : W2.cell? ⟨M.x, 7, none⟩ = some (.map (some M.kb)) := hx.cell rfl
  have x10 : W2.cell? ⟨M.x, 10, none⟩ = some M.vc := hx.cell rfl
  have fx10 := hx.frozen 10
  have b0 : W2.cell? ⟨W.heap.size, 0, none⟩ = some (.int .i64 t) := hk2.cell rfl
  have b1 : W2.cell? ⟨W.heap.size, 1, none⟩ = some (.int .i64 120) := hk2.cell rfl
  have b2 : W2.cell? ⟨W.heap.size, 2, none⟩ = some (.int .i64 varg) := hk2.cell rfl
  have b3 : W2.cell? ⟨W.heap.size, 3, none⟩ = some (.int .i64 vdat) := hk2.cell rfl
  have lx := hx.lt
  have lb := hk2.lt
  have ls := H2.se.lt
  have HX := Lib.hid hx
  have HBk := Lib.hid hk2
  have HB2 := Lib.hid hB2
  have s0 : W2.cell? ⟨M.sg, t * 5, none⟩ = some .nilIface := H2.se.cell (by
    have := thVals_get (M := M) 0 hh 0 (by omega)
    rw [show t * 5 + 0 = t * 5 from rfl] at this
    rw [this]
    show some (tkV M (0 + t) h.task) = _
    rw [hp]
    skip
    rfl)
  have htn : t < m.ths.length := (List.getElem?_eq_some_iff.1 hh).1
  have ntn : (t : Int) < m.ths.length := by omega
  have nt0 : (0 : Int) ≤ t := by omega
  have dt0 : decide ((t : Int) < 0) = false := by simp
  have dtn : decide ((m.ths.length : Int) ≤ t) = false := by simp; omega
  have HM2 := Lib.hid H2
  clear H2 hx hk2 hB2
  obtain ⟨ko, hko, hkk⟩ := HM2.out.kit
  have hl := kit_look hkk (W := W2.drew.drew.drew) hko 120 (by decide)
  rw [show kitF M.cv M.sv 120 = .func (.func 44) #[] #[.pointer (some ⟨M.sv, 0, none⟩)] from rfl] at hl
  have nF := funF_eq (.func 44) #[] #[.pointer (some ⟨M.sv, 0, none⟩)]
  go_region
  all_goals (
    go_upto_region 7 with fail
    go_region
    all_goals (
      go_upto_region 15 with fail
      go_region
      all_goals (
        go_wp2_with fail
        refine (mk120_0 HM2.out.drew.drew.drew hh hal ⟨t, 120, varg, vdat⟩).mono ?_
        rintro e w3 ⟨rfl, hb3⟩
        have HB3 := Lib.hid hb3
        clear hb3
        go_wp2_with fail
        go_ret
        exact ⟨rfl, ⟨M, rfl, HM2.out.drew.drew.drew.on HB3.out⟩, HB2.out.drew.drew.drew.after HB3.out (Nat.le_trans hsW HB2.out.size)⟩)))
set_option maxRecDepth 100000 in
set_option maxHeartbeats 4000000 in
theorem move120_1 (H : MM W B M m) (hlog : m.log.length ≤ m.moves) (hm : m.moves < 65536) (hh : m.ths[t]? = some h) (hp : h.task = none) (hal : h.alone = false) (hsh : h.shares = true) (varg vdat : Int) :
    Calls Try.prog 29 #[.pointer (some ⟨M.x, 0, none⟩), .agg #[.int .i64 t, .int .i64 120, .int .i64 varg, .int .i64 vdat]] W (MvR B M W (false, { m with moves := m.moves + 1 })) := by
  have hn0 : ((m.ths.length : Int) == 0) = false := beq_eq_false_iff_ne.2 (by have := H.nt.1; omega)
  have hm0 : (0 : Int) ≤ m.moves := by omega
  have hsW : B ≤ W.heap.size := by obtain ⟨_, _, _, hx⟩ := H.xb; exact Nat.le_trans H.bx (Nat.le_of_lt hx.lt)
  obtain ⟨th0, now0, us0, hx⟩ := H.xb
  have x8 : W.cell? ⟨M.x, 8, none⟩ = some (.slice (some ⟨M.sg, 0, none⟩) m.ths.length M.sk) := hx.cell rfl
  have x9 : W.cell? ⟨M.x, 9, none⟩ = some (.int .i64 m.moves) := hx.cell rfl
  have f9 := hx.frozen 9
  have lx := hx.lt
  have HB := Lib.hid H.bx
  have hnm := H.nm.2.1
  have hmv : decide ((65536 : Int) ≤ m.moves) = false := by simp; omega
  have H2 := (H.tick (by omega)).on (W' := (W.setCell ⟨M.x, 9, none⟩ (.int .i64 (m.moves + 1))).alloc (.cells #[.int .i64 t, .int .i64 120, .int .i64 varg, .int .i64 vdat] 78)) ((Below.refl _ _).alloc (Nat.le_refl _) _)
  have hB2 : Bk B W ((W.setCell ⟨M.x, 9, none⟩ (.int .i64 (m.moves + 1))).alloc (.cells #[.int .i64 t, .int .i64 120, .int .i64 varg, .int .i64 vdat] 78)) := ((Bk.refl _ _).setCell (p := ⟨M.x, 9, none⟩) H.bx hx rfl _).alloc (by simpa using hsW) _
  have hk2 : Blk ((W.setCell ⟨M.x, 9, none⟩ (.int .i64 (m.moves + 1))).alloc (.cells #[.int .i64 t, .int .i64 120, .int .i64 varg, .int .i64 vdat] 78)) W.heap.size 78 [.int .i64 t, .int .i64 120, .int .i64 varg, .int .i64 vdat] := by
    have := Blk.new (W.setCell ⟨M.x, 9, none⟩ (.int .i64 (m.moves + 1))) 78 [.int .i64 t, .int .i64 120, .int .i64 varg, .int .i64 vdat]
    have hz : (W.setCell ⟨M.x, 9, none⟩ (.int .i64 (m.moves + 1))).heap.size = W.heap.size := by simp
    rw [hz] at this
    exact this
  clear H hx
  go_enter Try.func29, Try.ntmps29
  go_upto_region 5 with fail
  generalize (W.setCell ⟨M.x, 9, none⟩ (.int .i64 (m.moves + 1))).alloc (.cells #[.int .i64 t, .int .i64 120, .int .i64 varg, .int .i64 vdat] 78) = W2 at H2 hB2 hk2 ⊢
  clear x8 x9 f9 lx
  obtain ⟨th1, now1, us1, hx⟩ := H2.xb
  have x8 : W2.cell? ⟨M.x, 8, none⟩ = some (.slice (some ⟨M.sg, 0, none⟩) m.ths.length M.sk) := hx.cell rfl
  have x7 : W2.cell? ⟨M.x, 7, none⟩ = some (.map (some M.kb)) := hx.cell rfl
  have x10 : W2.cell? ⟨M.x, 10, none⟩ = some M.vc := hx.cell rfl
  have fx10 := hx.frozen 10
  have b0 : W2.cell? ⟨W.heap.size, 0, none⟩ = some (.int .i64 t) := hk2.cell rfl
  have b1 : W2.cell? ⟨W.heap.size, 1, none⟩ = some (.int .i64 120) := hk2.cell rfl
  have b2 : W2.cell? ⟨W.heap.size, 2, none⟩ = some (.int .i64 varg) := hk2.cell rfl
  have b3 : W2.cell? ⟨W.heap.size, 3, none⟩ = some (.int .i64 vdat) := hk2.cell rfl
  have lx := hx.lt
  have lb := hk2.lt
  have ls := H2.se.lt
  have HX := Lib.hid hx
  have HBk := Lib.hid hk2
  have HB2 := Lib.hid hB2
  have s0 : W2.cell? ⟨M.sg, t * 5, none⟩ = some .nilIface := H2.se.cell (by
    have := thVals_get (M := M) 0 hh 0 (by omega)
    rw [show t * 5 + 0 = t * 5 from rfl] at this
    rw [this]
    show some (tkV M (0 + t) h.task) = _
    rw [hp]
    skip
    rfl)
  have htn : t < m.ths.length := (List.getElem?_eq_some_iff.1 hh).1
  have ntn : (t : Int) < m.ths.length := by omega
  have nt0 : (0 : Int) ≤ t := by omega
  have dt0 : decide ((t : Int) < 0) = false := by simp
  have dtn : decide ((m.ths.length : Int) ≤ t) = false := by simp; omega
  have HM2 := Lib.hid H2
  clear H2 hx hk2 hB2
  obtain ⟨ko, hko, hkk⟩ := HM2.out.kit
  have hl := kit_look hkk (W := W2.drew.drew.drew) hko 120 (by decide)
  rw [show kitF M.cv M.sv 120 = .func (.func 44) #[] #[.pointer (some ⟨M.sv, 0, none⟩)] from rfl] at hl
  have nF := funF_eq (.func 44) #[] #[.pointer (some ⟨M.sv, 0, none⟩)]
  go_region
  all_goals (
    go_upto_region 7 with fail
    go_region
    all_goals (
      go_upto_region 15 with fail
      go_region
      all_goals (
        go_wp2_with fail
        refine (mk120_1 HM2.out.drew.drew.drew hh hal hsh ⟨t, 120, varg, vdat⟩).mono ?_
        rintro e w3 ⟨rfl, hb3⟩
        have HB3 := Lib.hid hb3
        clear hb3
        go_wp2_with fail
        go_ret
        exact ⟨rfl, ⟨M, rfl, HM2.out.drew.drew.drew.on HB3.out⟩, HB2.out.drew.drew.drew.after HB3.out (Nat.le_trans hsW HB2.out.size)⟩)))
set_option maxRecDepth 100000 in
set_option maxHeartbeats 4000000 in
theorem move121_1 (H : MM W B M m) (hlog : m.log.length ≤ m.moves) (hm : m.moves < 65536) (hh : m.ths[t]? = some h) (hp : h.task = none) (hal : h.alone = false) (varg vdat : Int) :
    Calls Try.prog 29 #[.pointer (some ⟨M.x, 0, none⟩), .agg #[.int .i64 t, .int .i64 121, .int .i64 varg, .int .i64 vdat]] W (MvR B M W (false, { m with moves := m.moves + 1 })) := by
  have hn0 : ((m.ths.length : Int) == 0) = false := beq_eq_false_iff_ne.2 (by have := H.nt.1; omega)
  have hm0 : (0 : Int) ≤ m.moves := by omega
  have hsW : B ≤ W.heap.size := by obtain ⟨_, _, _, hx⟩ := H.xb; exact Nat.le_trans H.bx (Nat.le_of_lt hx.lt)
  obtain ⟨th0, now0, us0, hx⟩ := H.xb
  have x8 : W.cell? ⟨M.x, 8, none⟩ = some (.slice (some ⟨M.sg, 0, none⟩) m.ths.length M.sk) := hx.cell rfl
  have x9 : W.cell? ⟨M.x, 9, none⟩ = some (.int .i64 m.moves) := hx.cell rfl
  have f9 := hx.frozen 9
  have lx := hx.lt
  have HB := Lib.hid H.bx
  have hnm := H.nm.2.1
  have hmv : decide ((65536 : Int) ≤ m.moves) = false := by simp; omega
  have H2 := (H.tick (by omega)).on (W' := (W.setCell ⟨M.x, 9, none⟩ (.int .i64 (m.moves + 1))).alloc (.cells #[.int .i64 t, .int .i64 121, .int .i64 varg, .int .i64 vdat] 78)) ((Below.refl _ _).alloc (Nat.le_refl _) _)
  have hB2 : Bk B W ((W.setCell ⟨M.x, 9, none⟩ (.int .i64 (m.moves + 1))).alloc (.cells #[.int .i64 t, .int .i64 121, .int .i64 varg, .int .i64 vdat] 78)) := ((Bk.refl _ _).setCell (p := ⟨M.x, 9, none⟩) H.bx hx rfl _).alloc (by simpa using hsW) _
  have hk2 : Blk ((W.setCell ⟨M.x, 9, none⟩ (.int .i64 (m.moves + 1))).alloc (.cells #[.int .i64 t, .int .i64 121, .int .i64 varg, .int .i64 vdat] 78)) W.heap.size 78 [.int .i64 t, .int .i64 121, .int .i64 varg, .int .i64 vdat] := by
    have := Blk.new (W.setCell ⟨M.x, 9, none⟩ (.int .i64 (m.moves + 1))) 78 [.int .i64 t, .int .i64 121, .int .i64 varg, .int .i64 vdat]
    have hz : (W.setCell ⟨M.x, 9, none⟩ (.int .i64 (m.moves + 1))).heap.size = W.heap.size := by simp
    rw [hz] at this
    exact this
  clear H hx
  go_enter Try.func29, Try.ntmps29
  go_upto_region 5 with fail
  generalize (W.setCell ⟨M.x, 9, none⟩ (.int .i64 (m.moves + 1))).alloc (.cells #[.int .i64 t, .int .i64 121, .int .i64 varg, .int .i64 vdat] 78) = W2 at H2 hB2 hk2 ⊢
  clear x8 x9 f9 lx
  obtain ⟨th1, now1, us1, hx⟩ := H2.xb
  have x8 : W2.cell? ⟨M.x, 8, none⟩ = some (.slice (some ⟨M.sg, 0, none⟩) m.ths.length M.sk) := hx.cell rfl
  have x7 : W2.cell? ⟨M.x, 7, none⟩ = some (.map (some M.kb)) := hx.cell rfl
  have x10 : W2.cell? ⟨M.x, 10, none⟩ = some M.vc := hx.cell rfl
  have fx10 := hx.frozen 10
  have b0 : W2.cell? ⟨W.heap.size, 0, none⟩ = some (.int .i64 t) := hk2.cell rfl
  have b1 : W2.cell? ⟨W.heap.size, 1, none⟩ = some (.int .i64 121) := hk2.cell rfl
  have b2 : W2.cell? ⟨W.heap.size, 2, none⟩ = some (.int .i64 varg) := hk2.cell rfl
  have b3 : W2.cell? ⟨W.heap.size, 3, none⟩ = some (.int .i64 vdat) := hk2.cell rfl
  have lx := hx.lt
  have lb := hk2.lt
  have ls := H2.se.lt
  have HX := Lib.hid hx
  have HBk := Lib.hid hk2
  have HB2 := Lib.hid hB2
  have s0 : W2.cell? ⟨M.sg, t * 5, none⟩ = some .nilIface := H2.se.cell (by
    have := thVals_get (M := M) 0 hh 0 (by omega)
    rw [show t * 5 + 0 = t * 5 from rfl] at this
    rw [this]
    show some (tkV M (0 + t) h.task) = _
    rw [hp]
    skip
    rfl)
  have htn : t < m.ths.length := (List.getElem?_eq_some_iff.1 hh).1
  have ntn : (t : Int) < m.ths.length := by omega
  have nt0 : (0 : Int) ≤ t := by omega
  have dt0 : decide ((t : Int) < 0) = false := by simp
  have dtn : decide ((m.ths.length : Int) ≤ t) = false := by simp; omega
  have HM2 := Lib.hid H2
  clear H2 hx hk2 hB2
  obtain ⟨ko, hko, hkk⟩ := HM2.out.kit
  have hl := kit_look hkk (W := W2.drew.drew.drew) hko 121 (by decide)
  rw [show kitF M.cv M.sv 121 = .func (.func 45) #[] #[.pointer (some ⟨M.sv, 0, none⟩)] from rfl] at hl
  have nF := funF_eq (.func 45) #[] #[.pointer (some ⟨M.sv, 0, none⟩)]
  go_region
  all_goals (
    go_upto_region 7 with fail
    go_region
    all_goals (
      go_upto_region 15 with fail
      go_region
      all_goals (
        go_wp2_with fail
        refine (mk121_1 HM2.out.drew.drew.drew hh hal ⟨t, 121, varg, vdat⟩).mono ?_
        rintro e w3 ⟨rfl, hb3⟩
        have HB3 := Lib.hid hb3
        clear hb3
        go_wp2_with fail
        go_ret
        exact ⟨rfl, ⟨M, rfl, HM2.out.drew.drew.drew.on HB3.out⟩, HB2.out.drew.drew.drew.after HB3.out (Nat.le_trans hsW HB2.out.size)⟩)))
set_option maxRecDepth 100000 in
set_option maxHeartbeats 4000000 in
theorem move122_0 (H : MM W B M m) (hlog : m.log.length ≤ m.moves) (hm : m.moves < 65536) (hh : m.ths[t]? = some h) (hp : h.task = none) (hkd : (m.kd != 7) = true) (varg vdat : Int) :
    Calls Try.prog 29 #[.pointer (some ⟨M.x, 0, none⟩), .agg #[.int .i64 t, .int .i64 122, .int .i64 varg, .int .i64 vdat]] W (MvR B M W (false, { m with moves := m.moves + 1 })) := by
  have hn0 : ((m.ths.length : Int) == 0) = false := beq_eq_false_iff_ne.2 (by have := H.nt.1; omega)
  have hm0 : (0 : Int) ≤ m.moves := by omega
  have hsW : B ≤ W.heap.size := by obtain ⟨_, _, _, hx⟩ := H.xb; exact Nat.le_trans H.bx (Nat.le_of_lt hx.lt)
  obtain ⟨th0, now0, us0, hx⟩ := H.xb
  have x8 : W.cell? ⟨M.x, 8, none⟩ = some (.slice (some ⟨M.sg, 0, none⟩) m.ths.length M.sk) := hx.cell rfl
  have x9 : W.cell? ⟨M.x, 9, none⟩ = some (.int .i64 m.moves) := hx.cell rfl
  have f9 := hx.frozen 9
  have lx := hx.lt
  have HB := Lib.hid H.bx
  have hnm := H.nm.2.1
  have hmv : decide ((65536 : Int) ≤ m.moves) = false := by simp; omega
  have H2 := (H.tick (by omega)).on (W' := (W.setCell ⟨M.x, 9, none⟩ (.int .i64 (m.moves + 1))).alloc (.cells #[.int .i64 t, .int .i64 122, .int .i64 varg, .int .i64 vdat] 78)) ((Below.refl _ _).alloc (Nat.le_refl _) _)
  have hB2 : Bk B W ((W.setCell ⟨M.x, 9, none⟩ (.int .i64 (m.moves + 1))).alloc (.cells #[.int .i64 t, .int .i64 122, .int .i64 varg, .int .i64 vdat] 78)) := ((Bk.refl _ _).setCell (p := ⟨M.x, 9, none⟩) H.bx hx rfl _).alloc (by simpa using hsW) _
  have hk2 : Blk ((W.setCell ⟨M.x, 9, none⟩ (.int .i64 (m.moves + 1))).alloc (.cells #[.int .i64 t, .int .i64 122, .int .i64 varg, .int .i64 vdat] 78)) W.heap.size 78 [.int .i64 t, .int .i64 122, .int .i64 varg, .int .i64 vdat] := by
    have := Blk.new (W.setCell ⟨M.x, 9, none⟩ (.int .i64 (m.moves + 1))) 78 [.int .i64 t, .int .i64 122, .int .i64 varg, .int .i64 vdat]
    have hz : (W.setCell ⟨M.x, 9, none⟩ (.int .i64 (m.moves + 1))).heap.size = W.heap.size := by simp
    rw [hz] at this
    exact this
  clear H hx
  go_enter Try.func29, Try.ntmps29
  go_upto_region 5 with fail
  generalize (W.setCell ⟨M.x, 9, none⟩ (.int .i64 (m.moves + 1))).alloc (.cells #[.int .i64 t, .int .i64 122, .int .i64 varg, .int .i64 vdat] 78) = W2 at H2 hB2 hk2 ⊢
  clear x8 x9 f9 lx
  obtain ⟨th1, now1, us1, hx⟩ := H2.xb
  have x8 : W2.cell? ⟨M.x, 8, none⟩ = some (.slice (some ⟨M.sg, 0, none⟩) m.ths.length M.sk) := hx.cell rfl
  have x7 : W2.cell? ⟨M.x, 7, none⟩ = some (.map (some M.kb)) := hx.cell rfl
  have x10 : W2.cell? ⟨M.x, 10, none⟩ = some M.vc := hx.cell rfl
  have fx10 := hx.frozen 10
  have b0 : W2.cell? ⟨W.heap.size, 0, none⟩ = some (.int .i64 t) := hk2.cell rfl
  have b1 : W2.cell? ⟨W.heap.size, 1, none⟩ = some (.int .i64 122) := hk2.cell rfl
  have b2 : W2.cell? ⟨W.heap.size, 2, none⟩ = some (.int .i64 varg) := hk2.cell rfl
  have b3 : W2.cell? ⟨W.heap.size, 3, none⟩ = some (.int .i64 vdat) := hk2.cell rfl
  have lx := hx.lt
  have lb := hk2.lt
  have ls := H2.se.lt
  have HX := Lib.hid hx
  have HBk := Lib.hid hk2
  have HB2 := Lib.hid hB2
  have s0 : W2.cell? ⟨M.sg, t * 5, none⟩ = some .nilIface := H2.se.cell (by
    have := thVals_get (M := M) 0 hh 0 (by omega)
    rw [show t * 5 + 0 = t * 5 from rfl] at this
    rw [this]
    show some (tkV M (0 + t) h.task) = _
    rw [hp]
    skip
    rfl)
  have htn : t < m.ths.length := (List.getElem?_eq_some_iff.1 hh).1
  have ntn : (t : Int) < m.ths.length := by omega
  have nt0 : (0 : Int) ≤ t := by omega
  have dt0 : decide ((t : Int) < 0) = false := by simp
  have dtn : decide ((m.ths.length : Int) ≤ t) = false := by simp; omega
  have HM2 := Lib.hid H2
  clear H2 hx hk2 hB2
  obtain ⟨ko, hko, hkk⟩ := HM2.out.kit
  have hl := kit_look hkk (W := W2.drew.drew.drew) hko 122 (by decide)
  rw [show kitF M.cv M.sv 122 = .func (.func 46) #[] #[.pointer (some ⟨M.cv, 0, none⟩), .pointer (some ⟨M.sv, 0, none⟩)] from rfl] at hl
  have nF := funF_eq (.func 46) #[] #[.pointer (some ⟨M.cv, 0, none⟩), .pointer (some ⟨M.sv, 0, none⟩)]
  go_region
  all_goals (
    go_upto_region 7 with fail
    go_region
    all_goals (
      go_upto_region 15 with fail
      go_region
      all_goals (
        go_wp2_with fail
        refine (mk122_0 HM2.out.drew.drew.drew hh hkd ⟨t, 122, varg, vdat⟩).mono ?_
        rintro e w3 ⟨rfl, hb3⟩
        have HB3 := Lib.hid hb3
        clear hb3
        go_wp2_with fail
        go_ret
        exact ⟨rfl, ⟨M, rfl, HM2.out.drew.drew.drew.on HB3.out⟩, HB2.out.drew.drew.drew.after HB3.out (Nat.le_trans hsW HB2.out.size)⟩)))
set_option maxRecDepth 100000 in
set_option maxHeartbeats 4000000 in
theorem move122_1 (H : MM W B M m) (hlog : m.log.length ≤ m.moves) (hm : m.moves < 65536) (hh : m.ths[t]? = some h) (hp : h.task = none) (hkd : (m.kd != 7) = false) (hal : h.alone = true) (varg vdat : Int) :
    Calls Try.prog 29 #[.pointer (some ⟨M.x, 0, none⟩), .agg #[.int .i64 t, .int .i64 122, .int .i64 varg, .int .i64 vdat]] W (MvR B M W (false, { m with moves := m.moves + 1 })) := by
  have hn0 : ((m.ths.length : Int) == 0) = false := beq_eq_false_iff_ne.2 (by have := H.nt.1; omega)
  have hm0 : (0 : Int) ≤ m.moves := by omega
  have hsW : B ≤ W.heap.size := by obtain ⟨_, _, _, hx⟩ := H.xb; exact Nat.le_trans H.bx (Nat.le_of_lt hx.lt)
  obtain ⟨th0, now0, us0, hx⟩ := H.xb
  have x8 : W.cell? ⟨M.x, 8, none⟩ = some (.slice (some ⟨M.sg, 0, none⟩) m.ths.length M.sk) := hx.cell rfl
  have x9 : W.cell? ⟨M.x, 9, none⟩ = some (.int .i64 m.moves) := hx.cell rfl
  have f9 := hx.frozen 9
  have lx := hx.lt
  have HB := Lib.hid H.bx
  have hnm := H.nm.2.1
  have hmv : decide ((65536 : Int) ≤ m.moves) = false := by simp; omega
  have H2 := (H.tick (by omega)).on (W' := (W.setCell ⟨M.x, 9, none⟩ (.int .i64 (m.moves + 1))).alloc (.cells #[.int .i64 t, .int .i64 122, .int .i64 varg, .int .i64 vdat] 78)) ((Below.refl _ _).alloc (Nat.le_refl _) _)
  have hB2 : Bk B W ((W.setCell ⟨M.x, 9, none⟩ (.int .i64 (m.moves + 1))).alloc (.cells #[.int .i64 t, .int .i64 122, .int .i64 varg, .int .i64 vdat] 78)) := ((Bk.refl _ _).setCell (p := ⟨M.x, 9, none⟩) H.bx hx rfl _).alloc (by simpa using hsW) _
  have hk2 : Blk ((W.setCell ⟨M.x, 9, none⟩ (.int .i64 (m.moves + 1))).alloc (.cells #[.int .i64 t, .int .i64 122, .int .i64 varg, .int .i64 vdat] 78)) W.heap.size 78 [.int .i64 t, .int .i64 122, .int .i64 varg, .int .i64 vdat] := by
    have := Blk.new (W.setCell ⟨M.x, 9, none⟩ (.int .i64 (m.moves + 1))) 78 [.int .i64 t, .int .i64 122, .int .i64 varg, .int .i64 vdat]
    have hz : (W.setCell ⟨M.x, 9, none⟩ (.int .i64 (m.moves + 1))).heap.size = W.heap.size := by simp
    rw [hz] at this
    exact this
  clear H hx
  go_enter Try.func29, Try.ntmps29
  go_upto_region 5 with fail
  generalize (W.setCell ⟨M.x, 9, none⟩ (.int .i64 (m.moves + 1))).alloc (.cells #[.int .i64 t, .int .i64 122, .int .i64 varg, .int .i64 vdat] 78) = W2 at H2 hB2 hk2 ⊢
  clear x8 x9 f9 lx
  obtain ⟨th1, now1, us1, hx⟩ := H2.xb
  have x8 : W2.cell? ⟨M.x, 8, none⟩ = some (.slice (some ⟨M.sg, 0, none⟩) m.ths.length M.sk) := hx.cell rfl
  have x7 : W2.cell? ⟨M.x, 7, none⟩ = some (.map (some M.kb)) := hx.cell rfl
  have x10 : W2.cell? ⟨M.x, 10, none⟩ = some M.vc := hx.cell rfl
  have fx10 := hx.frozen 10
  have b0 : W2.cell? ⟨W.heap.size, 0, none⟩ = some (.int .i64 t) := hk2.cell rfl
  have b1 : W2.cell? ⟨W.heap.size, 1, none⟩ = some (.int .i64 122) := hk2.cell rfl
  have b2 : W2.cell? ⟨W.heap.size, 2, none⟩ = some (.int .i64 varg) := hk2.cell rfl
  have b3 : W2.cell? ⟨W.heap.size, 3, none⟩ = some (.int .i64 vdat) := hk2.cell rfl
  have lx := hx.lt
  have lb := hk2.lt
  have ls := H2.se.lt
  have HX := Lib.hid hx
  have HBk := Lib.hid hk2
  have HB2 := Lib.hid hB2
  have s0 : W2.cell? ⟨M.sg, t * 5, none⟩ = some .nilIface := H2.se.cell (by
    have := thVals_get (M := M) 0 hh 0 (by omega)
    rw [show t * 5 + 0 = t * 5 from rfl] at this
    rw [this]
    show some (tkV M (0 + t) h.task) = _
    rw [hp]
    skip
    rfl)
  have htn : t < m.ths.length := (List.getElem?_eq_some_iff.1 hh).1
  have ntn : (t : Int) < m.ths.length := by omega
  have nt0 : (0 : Int) ≤ t := by omega
  have dt0 : decide ((t : Int) < 0) = false := by simp
  have dtn : decide ((m.ths.length : Int) ≤ t) = false := by simp; omega
  have HM2 := Lib.hid H2
  clear H2 hx hk2 hB2
  obtain ⟨ko, hko, hkk⟩ := HM2.out.kit
  have hl := kit_look hkk (W := W2.drew.drew.drew) hko 122 (by decide)
  rw [show kitF M.cv M.sv 122 = .func (.func 46) #[] #[.pointer (some ⟨M.cv, 0, none⟩), .pointer (some ⟨M.sv, 0, none⟩)] from rfl] at hl
  have nF := funF_eq (.func 46) #[] #[.pointer (some ⟨M.cv, 0, none⟩), .pointer (some ⟨M.sv, 0, none⟩)]
  go_region
  all_goals (
    go_upto_region 7 with fail
    go_region
    all_goals (
      go_upto_region 15 with fail
      go_region
      all_goals (
        go_wp2_with fail
        refine (mk122_1 HM2.out.drew.drew.drew hh hkd hal ⟨t, 122, varg, vdat⟩).mono ?_
        rintro e w3 ⟨rfl, hb3⟩
        have HB3 := Lib.hid hb3
        clear hb3
        go_wp2_with fail
        go_ret
        exact ⟨rfl, ⟨M, rfl, HM2.out.drew.drew.drew.on HB3.out⟩, HB2.out.drew.drew.drew.after HB3.out (Nat.le_trans hsW HB2.out.size)⟩)))
set_option maxRecDepth 100000 in
set_option maxHeartbeats 4000000 in
theorem move122_2 (H : MM W B M m) (hlog : m.log.length ≤ m.moves) (hm : m.moves < 65536) (hh : m.ths[t]? = some h) (hp : h.task = none) (hkd : (m.kd != 7) = false) (hal : h.alone = false) (hsh : h.shares = true) (varg vdat : Int) :
    Calls Try.prog 29 #[.pointer (some ⟨M.x, 0, none⟩), .agg #[.int .i64 t, .int .i64 122, .int .i64 varg, .int .i64 vdat]] W (MvR B M W (false, { m with moves := m.moves + 1 })) := by
  have hn0 : ((m.ths.length : Int) == 0) = false := beq_eq_false_iff_ne.2 (by have := H.nt.1; omega)
  have hm0 : (0 : Int) ≤ m.moves := by omega
  have hsW : B ≤ W.heap.size := by obtain ⟨_, _, _, hx⟩ := H.xb; exact Nat.le_trans H.bx (Nat.le_of_lt hx.lt)
  obtain ⟨th0, now0, us0, hx⟩ := H.xb
  have x8 : W.cell? ⟨M.x, 8, none⟩ = some (.slice (some ⟨M.sg, 0, none⟩) m.ths.length M.sk) := hx.cell rfl
  have x9 : W.cell? ⟨M.x, 9, none⟩ = some (.int .i64 m.moves) := hx.cell rfl
  have f9 := hx.frozen 9
  have lx := hx.lt
  have HB := Lib.hid H.bx
  have hnm := H.nm.2.1
  have hmv : decide ((65536 : Int) ≤ m.moves) = false := by simp; omega
  have H2 := (H.tick (by omega)).on (W' := (W.setCell ⟨M.x, 9, none⟩ (.int .i64 (m.moves + 1))).alloc (.cells #[.int .i64 t, .int .i64 122, .int .i64 varg, .int .i64 vdat] 78)) ((Below.refl _ _).alloc (Nat.le_refl _) _)
  have hB2 : Bk B W ((W.setCell ⟨M.x, 9, none⟩ (.int .i64 (m.moves + 1))).alloc (.cells #[.int .i64 t, .int .i64 122, .int .i64 varg, .int .i64 vdat] 78)) := ((Bk.refl _ _).setCell (p := ⟨M.x, 9, none⟩) H.bx hx rfl _).alloc (by simpa using hsW) _
  have hk2 : Blk ((W.setCell ⟨M.x, 9, none⟩ (.int .i64 (m.moves + 1))).alloc (.cells #[.int .i64 t, .int .i64 122, .int .i64 varg, .int .i64 vdat] 78)) W.heap.size 78 [.int .i64 t, .int .i64 122, .int .i64 varg, .int .i64 vdat] := by
    have := Blk.new (W.setCell ⟨M.x, 9, none⟩ (.int .i64 (m.moves + 1))) 78 [.int .i64 t, .int .i64 122, .int .i64 varg, .int .i64 vdat]
    have hz : (W.setCell ⟨M.x, 9, none⟩ (.int .i64 (m.moves + 1))).heap.size = W.heap.size := by simp
    rw [hz] at this
    exact this
  clear H hx
  go_enter Try.func29, Try.ntmps29
  go_upto_region 5 with fail
  generalize (W.setCell ⟨M.x, 9, none⟩ (.int .i64 (m.moves + 1))).alloc (.cells #[.int .i64 t, .int .i64 122, .int .i64 varg, .int .i64 vdat] 78) = W2 at H2 hB2 hk2 ⊢
  clear x8 x9 f9 lx
  obtain ⟨th1, now1, us1, hx⟩ := H2.xb
  have x8 : W2.cell? ⟨M.x, 8, none⟩ = some (.slice (some ⟨M.sg, 0, none⟩) m.ths.length M.sk) := hx.cell rfl
  have x7 : W2.cell? ⟨M.x, 7, none⟩ = some (.map (some M.kb)) := hx.cell rfl
  have x10 : W2.cell? ⟨M.x, 10, none⟩ = some M.vc := hx.cell rfl
  have fx10 := hx.frozen 10
  have b0 : W2.cell? ⟨W.heap.size, 0, none⟩ = some (.int .i64 t) := hk2.cell rfl
  have b1 : W2.cell? ⟨W.heap.size, 1, none⟩ = some (.int .i64 122) := hk2.cell rfl
  have b2 : W2.cell? ⟨W.heap.size, 2, none⟩ = some (.int .i64 varg) := hk2.cell rfl
  have b3 : W2.cell? ⟨W.heap.size, 3, none⟩ = some (.int .i64 vdat) := hk2.cell rfl
  have lx := hx.lt
  have lb := hk2.lt
  have ls := H2.se.lt
  have HX := Lib.hid hx
  have HBk := Lib.hid hk2
  have HB2 := Lib.hid hB2
  have s0 : W2.cell? ⟨M.sg, t * 5, none⟩ = some .nilIface := H2.se.cell (by
    have := thVals_get (M := M) 0 hh 0 (by omega)
    rw [show t * 5 + 0 = t * 5 from rfl] at this
    rw [this]
    show some (tkV M (0 + t) h.task) = _
    rw [hp]
    skip
    rfl)
  have htn : t < m.ths.length := (List.getElem?_eq_some_iff.1 hh).1
  have ntn : (t : Int) < m.ths.length := by omega
  have nt0 : (0 : Int) ≤ t := by omega
  have dt0 : decide ((t : Int) < 0) = false := by simp
  have dtn : decide ((m.ths.length : Int) ≤ t) = false := by simp; omega
  have HM2 := Lib.hid H2
  clear H2 hx hk2 hB2
  obtain ⟨ko, hko, hkk⟩ := HM2.out.kit
  have hl := kit_look hkk (W := W2.drew.drew.drew) hko 122 (by decide)
  rw [show kitF M.cv M.sv 122 = .func (.func 46) #[] #[.pointer (some ⟨M.cv, 0, none⟩), .pointer (some ⟨M.sv, 0, none⟩)] from rfl] at hl
  have nF := funF_eq (.func 46) #[] #[.pointer (some ⟨M.cv, 0, none⟩), .pointer (some ⟨M.sv, 0, none⟩)]
  go_region
  all_goals (
    go_upto_region 7 with fail
    go_region
    all_goals (
      go_upto_region 15 with fail
      go_region
      all_goals (
        go_wp2_with fail
        refine (mk122_2 HM2.out.drew.drew.drew hh hkd hal hsh ⟨t, 122, varg, vdat⟩).mono ?_
        rintro e w3 ⟨rfl, hb3⟩
        have HB3 := Lib.hid hb3
        clear hb3
        go_wp2_with fail
        go_ret
        exact ⟨rfl, ⟨M, rfl, HM2.out.drew.drew.drew.on HB3.out⟩, HB2.out.drew.drew.drew.after HB3.out (Nat.le_trans hsW HB2.out.size)⟩)))
set_option maxRecDepth 100000 in
set_option maxHeartbeats 4000000 in
theorem move123_1 (H : MM W B M m) (hlog : m.log.length ≤ m.moves) (hm : m.moves < 65536) (hh : m.ths[t]? = some h) (hp : h.task = none) (hsh : h.shares = false) (varg vdat : Int) :
    Calls Try.prog 29 #[.pointer (some ⟨M.x, 0, none⟩), .agg #[.int .i64 t, .int .i64 123, .int .i64 varg, .int .i64 vdat]] W (MvR B M W (false, { m with moves := m.moves + 1 })) := by
  have hn0 : ((m.ths.length : Int) == 0) = false := beq_eq_false_iff_ne.2 (by have := H.nt.1; omega)
  have hm0 : (0 : Int) ≤ m.moves := by omega
  have hsW : B ≤ W.heap.size := by obtain ⟨_, _, _, hx⟩ := H.xb; exact Nat.le_trans H.bx (Nat.le_of_lt hx.lt)
  obtain ⟨th0, now0, us0, hx⟩ := H.xb
  have x8 : W.cell? ⟨M.x, 8, none⟩ = some (.slice (some ⟨M.sg, 0, none⟩) m.ths.length M.sk) := hx.cell rfl
  have x9 : W.cell? ⟨M.x, 9, none⟩ = some (.int .i64 m.moves) := hx.cell rfl
  have f9 := hx.frozen 9
  have lx := hx.lt
  have HB := Lib.hid H.bx
  have hnm := H.nm.2.1
  have hmv : decide ((65536 : Int) ≤ m.moves) = false := by simp; omega
  have H2 := (H.tick (by omega)).on (W' := (W.setCell ⟨M.x, 9, none⟩ (.int .i64 (m.moves + 1))).alloc (.cells #[.int .i64 t, .int .i64 123, .int .i64 varg, .int .i64 vdat] 78)) ((Below.refl _ _).alloc (Nat.le_refl _) _)
  have hB2 : Bk B W ((W.setCell ⟨M.x, 9, none⟩ (.int .i64 (m.moves + 1))).alloc (.cells #[.int .i64 t, .int .i64 123, .int .i64 varg, .int .i64 vdat] 78)) := ((Bk.refl _ _).setCell (p := ⟨M.x, 9, none⟩) H.bx hx rfl _).alloc (by simpa using hsW) _
  have hk2 : Blk ((W.setCell ⟨M.x, 9, none⟩ (.int .i64 (m.moves + 1))).alloc (.cells #[.int .i64 t, .int .i64 123, .int .i64 varg, .int .i64 vdat] 78)) W.heap.size 78 [.int .i64 t, .int .i64 123, .int .i64 varg, .int .i64 vdat] := by
    have := Blk.new (W.setCell ⟨M.x, 9, none⟩ (.int .i64 (m.moves + 1))) 78 [.int .i64 t, .int .i64 123, .int .i64 varg, .int .i64 vdat]
    have hz : (W.setCell ⟨M.x, 9, none⟩ (.int .i64 (m.moves + 1))).heap.size = W.heap.size := by simp
    rw [hz] at this
    exact this
  clear H hx
  go_enter Try.func29, Try.ntmps29
  go_upto_region 5 with fail
  generalize (W.setCell ⟨M.x, 9, none⟩ (.int .i64 (m.moves + 1))).alloc (.cells #[.int .i64 t, .int .i64 123, .int .i64 varg, .int .i64 vdat] 78) = W2 at H2 hB2 hk2 ⊢
  clear x8 x9 f9 lx
  obtain ⟨th1, now1, us1, hx⟩ := H2.xb
  have x8 : W2.cell? ⟨M.x, 8, none⟩ = some (.slice (some ⟨M.sg, 0, none⟩) m.ths.length M.sk) := hx.cell rfl
  have x7 : W2.cell? ⟨M.x, 7, none⟩ = some (.map (some M.kb)) := hx.cell rfl
  have x10 : W2.cell? ⟨M.x, 10, none⟩ = some M.vc := hx.cell rfl
  have fx10 := hx.frozen 10
  have b0 : W2.cell? ⟨W.heap.size, 0, none⟩ = some (.int .i64 t) := hk2.cell rfl
  have b1 : W2.cell? ⟨W.heap.size, 1, none⟩ = some (.int .i64 123) := hk2.cell rfl
  have b2 : W2.cell? ⟨W.heap.size, 2, none⟩ = some (.int .i64 varg) := hk2.cell rfl
  have b3 : W2.cell? ⟨W.heap.size, 3, none⟩ = some (.int .i64 vdat) := hk2.cell rfl
  have lx := hx.lt
  have lb := hk2.lt
  have ls := H2.se.lt
  have HX := Lib.hid hx
  have HBk := Lib.hid hk2
  have HB2 := Lib.hid hB2
  have s0 : W2.cell? ⟨M.sg, t * 5, none⟩ = some .nilIface := H2.se.cell (by
    have := thVals_get (M := M) 0 hh 0 (by omega)
    rw [show t * 5 + 0 = t * 5 from rfl] at this
    rw [this]
    show some (tkV M (0 + t) h.task) = _
    rw [hp]
    skip
    rfl)
  have htn : t < m.ths.length := (List.getElem?_eq_some_iff.1 hh).1
  have ntn : (t : Int) < m.ths.length := by omega
  have nt0 : (0 : Int) ≤ t := by omega
  have dt0 : decide ((t : Int) < 0) = false := by simp
  have dtn : decide ((m.ths.length : Int) ≤ t) = false := by simp; omega
  have HM2 := Lib.hid H2
  clear H2 hx hk2 hB2
  obtain ⟨ko, hko, hkk⟩ := HM2.out.kit
  have hl := kit_look hkk (W := W2.drew.drew.drew) hko 123 (by decide)
  rw [show kitF M.cv M.sv 123 = .func (.func 47) #[] #[.pointer (some ⟨M.sv, 0, none⟩)] from rfl] at hl
  have nF := funF_eq (.func 47) #[] #[.pointer (some ⟨M.sv, 0, none⟩)]
  go_region
  all_goals (
    go_upto_region 7 with fail
    go_region
    all_goals (
      go_upto_region 15 with fail
      go_region
      all_goals (
        go_wp2_with fail
        refine (mk123_1 HM2.out.drew.drew.drew hh hsh ⟨t, 123, varg, vdat⟩).mono ?_
        rintro e w3 ⟨rfl, hb3⟩
        have HB3 := Lib.hid hb3
        clear hb3
        go_wp2_with fail
        go_ret
        exact ⟨rfl, ⟨M, rfl, HM2.out.drew.drew.drew.on HB3.out⟩, HB2.out.drew.drew.drew.after HB3.out (Nat.le_trans hsW HB2.out.size)⟩)))
set_option maxRecDepth 100000 in
set_option maxHeartbeats 4000000 in
theorem move124_1 (H : MM W B M m) (hlog : m.log.length ≤ m.moves) (hm : m.moves < 65536) (hh : m.ths[t]? = some h) (hp : h.task = none) (hal : h.alone = false) (varg vdat : Int) :
    Calls Try.prog 29 #[.pointer (some ⟨M.x, 0, none⟩), .agg #[.int .i64 t, .int .i64 124, .int .i64 varg, .int .i64 vdat]] W (MvR B M W (false, { m with moves := m.moves + 1 })) := by
  have hn0 : ((m.ths.length : Int) == 0) = false := beq_eq_false_iff_ne.2 (by have := H.nt.1; omega)
  have hm0 : (0 : Int) ≤ m.moves := by omega
  have hsW : B ≤ W.heap.size := by obtain ⟨_, _, _, hx⟩ := H.xb; exact Nat.le_trans H.bx (Nat.le_of_lt hx.lt)
  obtain ⟨th0, now0, us0, hx⟩ := H.xb
  have x8 : W.cell? ⟨M.x, 8, none⟩ = some (.slice (some ⟨M.sg, 0, none⟩) m.ths.length M.sk) := hx.cell rfl
  have x9 : W.cell? ⟨M.x, 9, none⟩ = some (.int .i64 m.moves) := hx.cell rfl
  have f9 := hx.frozen 9
  have lx := hx.lt
  have HB := Lib.hid H.bx
  have hnm := H.nm.2.1
  have hmv : decide ((65536 : Int) ≤ m.moves) = false := by simp; omega
  have H2 := (H.tick (by omega)).on (W' := (W.setCell ⟨M.x, 9, none⟩ (.int .i64 (m.moves + 1))).alloc (.cells #[.int .i64 t, .int .i64 124, .int .i64 varg, .int .i64 vdat] 78)) ((Below.refl _ _).alloc (Nat.le_refl _) _)
  have hB2 : Bk B W ((W.setCell ⟨M.x, 9, none⟩ (.int .i64 (m.moves + 1))).alloc (.cells #[.int .i64 t, .int .i64 124, .int .i64 varg, .int .i64 vdat] 78)) := ((Bk.refl _ _).setCell (p := ⟨M.x, 9, none⟩) H.bx hx rfl _).alloc (by simpa using hsW) _
  have hk2 : Blk ((W.setCell ⟨M.x, 9, none⟩ (.int .i64 (m.moves + 1))).alloc (.cells #[.int .i64 t, .int .i64 124, .int .i64 varg, .int .i64 vdat] 78)) W.heap.size 78 [.int .i64 t, .int .i64 124, .int .i64 varg, .int .i64 vdat] := by
    have := Blk.new (W.setCell ⟨M.x, 9, none⟩ (.int .i64 (m.moves + 1))) 78 [.int .i64 t, .int .i64 124, .int .i64 varg, .int .i64 vdat]
    have hz : (W.setCell ⟨M.x, 9, none⟩ (.int .i64 (m.moves + 1))).heap.size = W.heap.size := by simp
    rw [hz] at this
    exact this
  clear H hx
  go_enter Try.func29, Try.ntmps29
  go_upto_region 5 with fail
  generalize (W.setCell ⟨M.x, 9, none⟩ (.int .i64 (m.moves + 1))).alloc (.cells #[.int .i64 t, .int .i64 124, .int .i64 varg, .int .i64 vdat] 78) = W2 at H2 hB2 hk2 ⊢
  clear x8 x9 f9 lx
  obtain ⟨th1, now1, us1, hx⟩ := H2.xb
  have x8 : W2.cell? ⟨M.x, 8, none⟩ = some (.slice (some ⟨M.sg, 0, none⟩) m.ths.length M.sk) := hx.cell rfl
  have x7 : W2.cell? ⟨M.x, 7, none⟩ = some (.map (some M.kb)) := hx.cell rfl
  have x10 : W2.cell? ⟨M.x, 10, none⟩ = some M.vc := hx.cell rfl
  have fx10 := hx.frozen 10
  have b0 : W2.cell? ⟨W.heap.size, 0, none⟩ = some (.int .i64 t) := hk2.cell rfl
  have b1 : W2.cell? ⟨W.heap.size, 1, none⟩ = some (.int .i64 124) := hk2.cell rfl
  have b2 : W2.cell? ⟨W.heap.size, 2, none⟩ = some (.int .i64 varg) := hk2.cell rfl
  have b3 : W2.cell? ⟨W.heap.size, 3, none⟩ = some (.int .i64 vdat) := hk2.cell rfl
  have lx := hx.lt
  have lb := hk2.lt
  have ls := H2.se.lt
  have HX := Lib.hid hx
  have HBk := Lib.hid hk2
  have HB2 := Lib.hid hB2
  have s0 : W2.cell? ⟨M.sg, t * 5, none⟩ = some .nilIface := H2.se.cell (by
    have := thVals_get (M := M) 0 hh 0 (by omega)
    rw [show t * 5 + 0 = t * 5 from rfl] at this
    rw [this]
    show some (tkV M (0 + t) h.task) = _
    rw [hp]
    skip
    rfl)
  have htn : t < m.ths.length := (List.getElem?_eq_some_iff.1 hh).1
  have ntn : (t : Int) < m.ths.length := by omega
  have nt0 : (0 : Int) ≤ t := by omega
  have dt0 : decide ((t : Int) < 0) = false := by simp
  have dtn : decide ((m.ths.length : Int) ≤ t) = false := by simp; omega
  have HM2 := Lib.hid H2
  clear H2 hx hk2 hB2
  obtain ⟨ko, hko, hkk⟩ := HM2.out.kit
  have hl := kit_look hkk (W := W2.drew.drew.drew) hko 124 (by decide)
  rw [show kitF M.cv M.sv 124 = .func (.func 48) #[] #[.pointer (some ⟨M.sv, 0, none⟩)] from rfl] at hl
  have nF := funF_eq (.func 48) #[] #[.pointer (some ⟨M.sv, 0, none⟩)]
  go_region
  all_goals (
    go_upto_region 7 with fail
    go_region
    all_goals (
      go_upto_region 15 with fail
      go_region
      all_goals (
        go_wp2_with fail
        refine (mk124_1 HM2.out.drew.drew.drew hh hal ⟨t, 124, varg, vdat⟩).mono ?_
        rintro e w3 ⟨rfl, hb3⟩
        have HB3 := Lib.hid hb3
        clear hb3
        go_wp2_with fail
        go_ret
        exact ⟨rfl, ⟨M, rfl, HM2.out.drew.drew.drew.on HB3.out⟩, HB2.out.drew.drew.drew.after HB3.out (Nat.le_trans hsW HB2.out.size)⟩)))
end
end Go.Proofs.Ytjnmlgfkiebkgaa
