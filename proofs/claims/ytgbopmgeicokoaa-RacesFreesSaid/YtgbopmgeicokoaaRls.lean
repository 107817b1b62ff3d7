/-
  reclaimref27.last: of each word and thread the own number at the last event of a kind.
-/
import Derived.Test.YtgbopmgeicokoaaBfs
import Derived.Test.YtgbopmgeicokoaaRrc
import Derived.OwnWalk
namespace Go.Proofs.Ytgbopmgeicokoaa
open Go.RowKit
set_option linter.unusedSimpArgs false
set_option linter.unusedVariables false

theorem lastK_len (n nw : Nat) (f : Nat → Nat → Int) : (lastK n nw f).length = nw * n := by simp [lastK]
theorem lastK_at {n nw : Nat} {f : Nat → Nat → Int} {c : Nat} (h : c < nw * n) : (lastK n nw f)[c]? = some (f (c / n) (c % n)) := by simp [lastK, h]
theorem div_mod_of {n a t : Nat} (ht : t < n) : (a * n + t) / n = a ∧ (a * n + t) % n = t := by
  have hn : 0 < n := by omega
  constructor
  · rw [Nat.mul_comm, Nat.mul_add_div hn, Nat.div_eq_of_lt ht, Nat.add_zero]
  · rw [Nat.mul_comm, Nat.mul_add_mod, Nat.mod_eq_of_lt ht]
theorem lastK_set {n nw : Nat} (f : Nat → Nat → Int) {a t : Nat} (ha : a < nw) (ht : t < n) (v : Int) : (ints (lastK n nw f)).set (a * n + t) (.int .i64 v) = ints (lastK n nw fun b u => if b = a ∧ u = t then v else f b u) := by
  rw [ints_set]
  congr 1
  apply List.ext_getElem?
  intro c
  have hlt : a * n + t < nw * n := by
    have : (a + 1) * n ≤ nw * n := Nat.mul_le_mul_right n ha
    rw [Nat.add_mul, Nat.one_mul] at this
    omega
  by_cases hc : c < nw * n
  · rw [lastK_at hc]
    by_cases he : c = a * n + t
    · subst he
      obtain ⟨e1, e2⟩ := div_mod_of (a := a) ht
      rw [List.getElem?_set_self (by rw [lastK_len]; exact hc), e1, e2, if_pos ⟨rfl, rfl⟩]
    · rw [List.getElem?_set_ne (Ne.symm he), lastK_at hc, if_neg]
      rintro ⟨h1, h2⟩
      apply he
      rw [← h1, ← h2, Nat.mul_comm]
      exact (Nat.div_add_mod c n).symm
  · rw [List.getElem?_eq_none (by rw [List.length_set, lastK_len]; omega), List.getElem?_eq_none (by rw [lastK_len]; omega)]
theorem gb_none' {w w' : World} (h : w.grownBy w' none) : Below w.heap.size w w' := (Below.refl _ _).grown h (Nat.le_refl _) (fun q hq => by cases hq)
def LsR (N : Nat) (xs : List Int) (w : World) (e : Ending) (w' : World) : Prop := ∃ g, e = .returned (.slice (some ⟨g, 0, none⟩) N N) ∧ w.heap.size ≤ g ∧ Rw w' g 3 1 N N (ints xs) ∧ Below w.heap.size w w'
theorem made_last (n nw : Nat) : (madeCells (Value.int .i64 0).cells (nw * n * 1)).toList = ints (lastK n nw fun _ _ => 0) := by
  show (madeCells #[Value.int .i64 0] (nw * n * 1)).toList = _
  rw [madeCells_one, Nat.mul_one]
  apply List.ext_getElem
  · simp [ints, lastK]
  · intro i h1 h2
    simp [ints, lastK]
theorem hitK_cases (kd : Int) (e : Ev) : hitK kd e = (decide (e.k = kd) || (decide (kd = 9) && (decide (e.k = 3) && e.wr))) := rfl

set_option maxRecDepth 100000 in
set_option maxHeartbeats 8000000 in
theorem last_any (l : Lit) (A : Option Addr) (m k : Nat) (h0 h1 h2 h3 h4 h5 : Value) (es : List Ev) (cs : List (Nat × Nat)) (kd : Int) (w : World) (h : LitAt w w.heap.size l) (hok : okLit l = true) (hE : EvcAt w w.heap.size l.tn es cs A) (hm : es.length = m) (hm2 : m ≤ 100000) (hes : ∀ e ∈ es, EvOk l e)
    (g0 : h0.oneCell' = true) (g1 : h1.oneCell' = true) (g2 : h2.oneCell' = true) (g3 : h3.oneCell' = true) (g4 : h4.oneCell' = true) (g5 : h5.oneCell' = true) :
    Calls Try.prog 128 #[litV l, .agg #[h0, h1, h2, h3, h4, h5, .slice A m k], .int .i64 kd] w (LsR (l.wn * l.tn) (lastK l.tn l.wn (lastE es kd)) w) := by
  obtain ⟨n1, n2, n3, n4⟩ := okLit_num hok
  obtain ⟨w0, hw0⟩ : ∃ w0 : World, w0 = (w.alloc (.cells #[.slice l.wA l.wn l.wk, .slice l.tA l.tn l.tk] 101)).alloc (.cells #[h0, h1, h2, h3, h4, h5, .slice A m k] 116) := ⟨_, rfl⟩
  have HB0 : Hid (Blk w0 w.heap.size 101 (litL l)) := by rw [hw0]; exact (Blk.new w 101 (litL l)).alloc _
  have HZ0 : Hid (Blk w0 (w.heap.size + 1) 116 [h0, h1, h2, h3, h4, h5, .slice A m k]) := by
    rw [hw0]
    have h9 := Blk.new (w.alloc (.cells #[.slice l.wA l.wn l.wk, .slice l.tA l.tn l.tk] 101)) 116 [h0, h1, h2, h3, h4, h5, .slice A m k]
    rw [World.size_alloc] at h9
    exact h9
  have HW0 : Hid (Below w.heap.size w w0) := by rw [hw0]; exact ((Below.refl _ _).alloc (Nat.le_refl _) _).alloc (by simp) _
  have HEv := Lib.hid hE
  have HM := Lib.hid hm
  have HOk := Lib.hid hes
  have HWe := Lib.hid hw0
  have hz0 : w.heap.size + 1 < w0.heap.size := HZ0.out.lt
  clear h hw0 hE hm hes
  obtain ⟨N, hN⟩ : ∃ N : Nat, N = l.wn * l.tn := ⟨_, rfl⟩
  have hN24 : N ≤ 24 := by
    rw [hN]
    exact Nat.le_trans (Nat.mul_le_mul n4 n2) (by omega)
  have hN0 : 0 < N := by rw [hN]; exact Nat.mul_pos (by omega) (by omega)
  have HN := Lib.hid hN
  rw [← hN]
  have hNi : IntKind.i64.wrap ((l.wn : Int) * (l.tn : Int)) = (N : Int) := by
    rw [show ((l.wn : Int) * (l.tn : Int)) = (N : Int) by rw [hN]; push_cast; rfl]
    exact IntWalk.i64_in _ (by omega)
  have hNw : wrap64 ((l.wn : Int) * (l.tn : Int)) = (N : Int) := by rw [← w64]; exact hNi
  obtain ⟨i1, hi1, hi1z, hi1s, hi1b⟩ := info_parts info_int1
  clear hN
  go_enter Try.func128, Try.ntmps128
  go_upto_region 1 with fail
  rw [← HWe.out]
  clear HWe
  have q0 : w0.cell? ⟨w.heap.size, 0, none⟩ = some (.slice l.wA l.wn l.wk) := HB0.out.cell rfl
  have q1 : w0.cell? ⟨w.heap.size, 1, none⟩ = some (.slice l.tA l.tn l.tk) := HB0.out.cell rfl
  go_upto_region 2 with (at_make; go_must (refine wpList_make_full _ rfl _ _ 30 rfl w0.heap.size 3 i1 (.int .i64 0) 1 Try.underlying30 hi1 hi1z hi1s .i64 .i64 _ _ N rfl rfl (by simp [*]) (by simp [*]) (by rw [hi1b]; omega) (by simp only [maxLen]; omega) (Nat.le_refl _) ?_; intro w1 hown1 hg1))
  rw [HN.out, made_last, ← HN.out] at hown1
  obtain ⟨go, hgo, hgoB, hRo⟩ := Rw.of_own hown1 hN0
  injection hgo with hgo
  injection hgo with hgo _
  rw [hgo]
  have HRo := Lib.hid hRo
  have hb1 : Below w0.heap.size w0 w1 := gb_none' hg1
  have HB1 := Lib.hid hb1
  clear hown1 hg1 hgo hRo hb1 q0 q1 hi1 hi1z hi1s hi1b hNi hNw
  go_upto_region 3 with fail
  go_loopg [8] m (fun gk i wr => ∃ j : Nat, j + gk = m ∧ i = .int .i64 j ∧ Hid (Below w0.heap.size w0 wr) ∧ Hid (Rw wr go 3 1 N N (ints (lastK l.tn l.wn (lastAt es kd j)))))
  case atStart => exact ⟨0, by omega, rfl, HB1, HRo⟩
  case round =>
    clear HB1 HRo
    obtain ⟨j, hj, rfl, HBj, HRj⟩ := hrel
    have q6 : wr.cell? ⟨w.heap.size + 1, 6, none⟩ = some (.slice A m k) := (HZ0.out.below HBj.out HZ0.out.lt).cell rfl
    by_cases hlt : j < m
    · have e1 : (j : Int) < m := by omega
      have e0 : (0 : Int) ≤ j := by omega
      obtain ⟨b, hb⟩ := at_lt (show j < es.length by rw [HM.out]; exact hlt)
      have hbok := HOk.out b (List.mem_of_getElem? hb)
      have HBw : Hid (Below w.heap.size w wr) := HW0.out.trans (HBj.out.mono HW0.out.size)
      have HEw := Lib.hid (HEv.out.on HBw.out)
      obtain ⟨p, b1, o1, hp, hA1, hb1, c0, c1, c2, c3, c4⟩ := HEw.out.at_ hb
      obtain ⟨g9, o9, hg9, hg9b, hc9⟩ := (HEw.out.cr j p hp).2 (by omega)
      injection hg9 with hg9
      injection hg9 with e8 e9
      subst e8 e9
      have c5 := hc9 b.t _ (clkV_get hbok.1)
      rw [Nat.zero_add] at c5
      have HNx : Hid (lastAt es kd (j + 1) = fun a t => if hitK kd b = true ∧ a = b.a ∧ t = b.t then ckAt es j b.t else lastAt es kd j a t) := by
        refine Lib.hid ?_
        funext a t
        exact lastAt_next hb a t
      have HGb := Lib.hid hb
      subst hA1
      have hbt : b.t < l.tn := hbok.1
      have hba : b.a < l.wn := hbok.2
      clear hb hp hc9 hbok
      go_upto_region 6 with fail
      obtain ⟨gz, hgz⟩ : ∃ gz, gz = wr.heap.size := ⟨_, rfl⟩
      obtain ⟨x1, hx1, HY, hbx⟩ : ∃ Z9, Z9 = wr.alloc (.cells #[.int .i64 b.t, .int .i64 b.k, .int .i64 b.a, .bool b.wr, .slice (some ⟨p.1, 0, none⟩) l.tn p.2] 122) ∧ Hid (Blk Z9 gz 122 [.int .i64 b.t, .int .i64 b.k, .int .i64 b.a, .bool b.wr, .slice (some ⟨p.1, 0, none⟩) l.tn p.2]) ∧ Below wr.heap.size wr Z9 := ⟨_, rfl, by rw [hgz]; exact Blk.new _ _ _, (Below.refl _ _).alloc (Nat.le_refl _) _⟩
      rw [← hx1, ← hgz]
      have HBx := Lib.hid (HBj.out.trans (hbx.mono HBj.out.size))
      have HRx := Lib.hid (HRj.out.on hbx)
      have HC5 : Hid (x1.cell? ⟨p.1, b.t, none⟩ = some (.int .i64 (ckAt es j b.t))) := Lib.hid ((hbx.cell (World.block_lt_of_cell? wr _ c5)).trans c5)
      clear hx1 hgz hbx c0 c1 c2 c3 c4 c5 q6 HBj HRj
      have y0 : x1.cell? ⟨gz, 0, none⟩ = some (.int .i64 b.t) := HY.out.cell rfl
      have y1 : x1.cell? ⟨gz, 1, none⟩ = some (.int .i64 b.k) := HY.out.cell rfl
      have y2 : x1.cell? ⟨gz, 2, none⟩ = some (.int .i64 b.a) := HY.out.cell rfl
      have y3 : x1.cell? ⟨gz, 3, none⟩ = some (.bool b.wr) := HY.out.cell rfl
      have y4 : x1.cell? ⟨gz, 4, none⟩ = some (.slice (some ⟨p.1, 0, none⟩) l.tn p.2) := HY.out.cell rfl
      go_upto_region 7 with fail
      go_cut [49] (fun s49 wc => s49 = .bool (hitK kd b) ∧ x1 = wc)
      case first =>
        obtain ⟨bt, bk, ba, bw⟩ := b
        dsimp only at y0 y1 y2 y3 y4
        by_cases r1 : bk = kd
        case pos =>
          subst r1
          go_wp2_with fail
          go_meet
          exact ⟨by rw [hitK_cases]; simp, rfl⟩
        have m1 : (bk == kd) = false := by simpa using r1
        by_cases r9 : kd = 9
        case neg =>
          have m9 : (kd == 9) = false := by simpa using r9
          go_wp2_with fail
          go_meet
          exact ⟨by rw [hitK_cases]; simp [r1, r9], rfl⟩
        subst r9
        by_cases r3 : bk = 3
        case neg =>
          have m3 : (bk == 3) = false := by simpa using r3
          go_wp2_with fail
          go_meet
          exact ⟨by rw [hitK_cases]; simp [r1, r3], rfl⟩
        subst r3
        go_wp2_with fail
        go_meet
        exact ⟨by rw [hitK_cases]; simp, rfl⟩
      case rest =>
        obtain ⟨rfl, rfl⟩ := hcut
        clear y3
        cases hh : hitK kd b with
        | false =>
          have HNo : Hid (lastAt es kd (j + 1) = lastAt es kd j) := by
            rw [HNx.out]
            refine Lib.hid ?_
            funext a t
            have hne : ¬ (hitK kd b = true ∧ a = b.a ∧ t = b.t) := fun h9 => by rw [hh] at h9; cases h9.1
            exact if_neg hne
          have HRy : Hid (Rw x1 go 3 1 N N (ints (lastK l.tn l.wn (lastAt es kd (j + 1))))) := Lib.hid (Eq.mpr (congrArg (fun f => Rw x1 go 3 1 N N (ints (lastK l.tn l.wn f))) HNo.out) HRx.out)
          clear hh
          go_wp2_with fail
          go_roundg (gk - 1)
          case measure => omega
          case rel => exact ⟨j + 1, by omega, by go_num, HBx, HRy⟩
        | true =>
          have HYs : Hid (lastAt es kd (j + 1) = fun a t => if a = b.a ∧ t = b.t then ckAt es j b.t else lastAt es kd j a t) := by
            rw [HNx.out]
            refine Lib.hid ?_
            funext a t
            by_cases h9 : a = b.a ∧ t = b.t
            · rw [if_pos ⟨hh, h9⟩, if_pos h9]
            · rw [if_neg (fun h8 => h9 h8.2), if_neg h9]
          have hq : b.a * l.tn + b.t < N := by
            rw [HN.out]
            have : (b.a + 1) * l.tn ≤ l.wn * l.tn := Nat.mul_le_mul_right _ hba
            rw [Nat.add_mul, Nat.one_mul] at this
            omega
          obtain ⟨q, hqe⟩ : ∃ q, q = b.a * l.tn + b.t := ⟨_, rfl⟩
          rw [← hqe] at hq
          have f0 : (0 : Int) ≤ (q : Int) := by omega
          have f1 : (q : Int) < N := by omega
          have f2 : (0 : Int) ≤ (b.t : Int) := by omega
          have f3 : (b.t : Int) < l.tn := by omega
          obtain ⟨pr, hpr⟩ : ∃ pr, pr = b.a * l.tn := ⟨_, rfl⟩
          have hpq : (pr : Int) + (b.t : Int) = (q : Int) := by omega
          have hpN : (pr : Int) ≤ 24 := by omega
          have hqN : (q : Int) ≤ 24 := by omega
          have m1 : IntKind.i64.wrap ((b.a : Int) * (l.tn : Int)) = (pr : Int) := by
            rw [show ((b.a : Int) * (l.tn : Int)) = (pr : Int) by rw [hpr]; push_cast; rfl]
            exact wrap_small (by omega) (by omega)
          have m2 : IntKind.i64.wrap ((pr : Int) + (b.t : Int)) = (q : Int) := by rw [hpq]; exact wrap_small f0 (Int.le_trans hqN (by decide))
          have m3 : wrap64 ((b.a : Int) * (l.tn : Int)) = (pr : Int) := by rw [← w64]; exact m1
          have m4 : wrap64 ((pr : Int) + (b.t : Int)) = (q : Int) := by rw [← w64]; exact m2
          clear hpr hpq hpN hqN
          have HQe := Lib.hid hqe
          clear hqe hh
          have q1 : x1.cell? ⟨w.heap.size, 1, none⟩ = some (.slice l.tA l.tn l.tk) := (HB0.out.below HBx.out HB0.out.lt).cell rfl
          have c5 := HC5.out
          obtain ⟨uo, huo⟩ : ∃ u, x1.cell? ⟨go, q, none⟩ = some u := ⟨_, HRx.out.cell (ints_get (lastK_at (by rw [← HN.out]; exact hq)))⟩
          have hfo := HRx.out.frozen q
          go_upto_region 8 with fail
          go_still_tail 20, (by kernel_rfl)
          clear m1 m2 m3 m4 c5 y0 y1 y2 y4 q1 f0 f1 f2 f3
          go_wp2_with fail
          have HRn : Hid (Rw (x1.drew.setCell ⟨go, q, none⟩ (.int .i64 (ckAt es j b.t))) go 3 1 N N (ints (lastK l.tn l.wn (lastAt es kd (j + 1))))) := by
            have h9 := HRx.out.drew.set_ q (.int .i64 (ckAt es j b.t))
            have e9 : (ints (lastK l.tn l.wn (lastAt es kd j))).set q (.int .i64 (ckAt es j b.t)) = ints (lastK l.tn l.wn (lastAt es kd (j + 1))) := by
              have e8 := lastK_set (lastAt es kd j) hba hbt (ckAt es j b.t)
              rw [← HQe.out] at e8
              exact e8.trans (congrArg (fun f => ints (lastK l.tn l.wn f)) HYs.out.symm)
            exact Lib.hid (Eq.mp (congrArg (fun xs => Rw (x1.drew.setCell ⟨go, q, none⟩ (.int .i64 (ckAt es j b.t))) go 3 1 N N xs) e9) h9)
          go_roundg (gk - 1)
          case measure => omega
          case rel => exact ⟨j + 1, by omega, by go_num, HBx.out.drew.setCell hgoB _, HRn⟩
    · obtain rfl : j = m := by omega
      have hml := HM.out
      have HBw := Lib.hid (HW0.out.trans (HBj.out.mono HW0.out.size))
      go_wp2_with fail
      go_ret
      refine ⟨go, rfl, Nat.le_trans HW0.out.size hgoB, ?_, HBw.out⟩
      have h9 := HRj.out
      unfold lastE
      rw [hml]
      exact h9
end Go.Proofs.Ytgbopmgeicokoaa
