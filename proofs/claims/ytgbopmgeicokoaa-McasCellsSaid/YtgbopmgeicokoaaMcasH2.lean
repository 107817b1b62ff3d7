/-
  mcas.held: a cell whose word is a descriptor's.
-/
import Derived.Test.YtgbopmgeicokoaaMcasHd
import Derived.IntWalk
namespace Go.Proofs.Ytgbopmgeicokoaa
open Go.RowKit

/-- what a descriptor's cell holds: its status s, the entry found -/
def val2 (f : Option Ent) (s : Nat) : Option Int := if s = 1 then f.map (·.2.2) else if s ≤ 2 then f.map (·.2.1) else none
/-- a value and whether it is one -/
def HeldR (r : Option Int) (w : World) (e : Ending) (w' : World) : Prop :=
  ∃ v : Int, e = .returned (.tuple #[.int .i64 v, .bool r.isSome]) ∧ (∀ y, r = some y → v = y) ∧ Below w.heap.size w w'

set_option maxRecDepth 100000 in
set_option maxHeartbeats 1000000 in
theorem held_2 (c : Mul) (A : Option Addr) (n k : Nat) (S : Option Addr) (m l : Nat) (wb wo wn wk : Nat) (w : World) (h : MulAt w w.heap.size A n k S m l c) (hF : OkF c) (cell x s num : Nat)
    (hx : w.cell? ⟨wb, wo + cell, none⟩ = some (.int .u64 (x : Int))) (hcell : cell < n) (hx2 : x % 4 = 2) (hxd : ((x / 4 : Nat) : Int) < c.threads * c.uses) (hxl : x < 18446744073709551616)
    (hwn : (wn : Int) = n + c.threads + 2 * c.threads * c.uses) (at_ : Nat) (hat : (at_ : Int) = n + c.threads + 2 * ((x / 4 : Nat) : Int))
    (hs : w.cell? ⟨wb, wo + at_, none⟩ = some (.int .u64 (s : Int))) (hnum : w.cell? ⟨wb, wo + (at_ + 1), none⟩ = some (.int .u64 (num : Int))) (hnl : num < 18446744073709551616) :
    Calls Try.prog 55 #[mulV c A n k S m l, .slice (some ⟨wb, wo, none⟩) wn wk, .int .i64 (cell : Int)] w (HeldR (val2 (entFound c num cell) s) w) := by
  have hn := h.n_eq
  have hT1 := hF.t1
  have hT2 := hF.t2
  have hn2 := hF.n2
  rw [← hn] at hn2
  have hP := hF.tu
  have hP1 := hP.1
  have hP2 := hP.2
  have h' := h.below ((Below.refl _ _).alloc (Nat.le_refl _) (.cells #[.int .i64 c.threads, .slice A n k, .slice S m l, .int .i64 c.uses] 33))
  have r0 : ((x : Int) % 4 == 0) = false := by rw [beq_eq_false_iff_ne]; omega
  have r2 : ((x : Int) % 4 == 2) = true := by rw [beq_iff_eq]; omega
  have hwx := World.block_lt_of_cell? w _ hx
  have e5 : (cell : Int) < wn := by rw [hwn]; have := hF.tu2; omega
  have hx4 : (x : Int) / 4 < c.threads * c.uses := by omega
  have g15 : decide (c.threads * c.uses ≤ (x : Int) / 4) = false := by simp; omega
  have Hn := Lib.hid hn
  have Hwn := Lib.hid hwn
  have Hat := Lib.hid hat
  have hhx : (x : Int) / 4 < 65536 := by omega
  have hx0 : 0 ≤ (x : Int) / 4 := by omega
  clear hn hwn hat hP hF
  go_enter Try.func55, Try.ntmps55
  go_wp2_with fail
  have hatx : (n : Int) + c.threads + 2 * ((x : Int) / 4) = (at_ : Int) := by have := Hat.out; omega
  have hat2 : (at_ : Int) + 1 < wn := by have h1 := Hwn.out; have h2 := Hat.out; rw [Int.mul_assoc] at h1; omega
  have hat3 : at_ + 1 < wn := by omega
  have hat4 : (at_ : Int) < 65536 := by have h2 := Hat.out; omega
  have Hatx := Lib.hid hatx
  clear hatx
  refine (status_any c A n k S m l _ _ hT1 hT2 hn2 hx0 hhx).mono ?_
  rw [Hatx.out]
  rintro e w1 ⟨rfl, hb⟩
  have hz : w.heap.size < w1.heap.size := by have := hb.size; simp at this; omega
  have d0 : w1.cell? ⟨w.heap.size, 0, none⟩ = some (.int .i64 c.threads) := (hb.cell (by simp)).trans (by simp)
  have d1 : w1.cell? ⟨w.heap.size, 1, none⟩ = some (.slice A n k) := (hb.cell (by simp)).trans (by simp)
  have d2 : w1.cell? ⟨w.heap.size, 2, none⟩ = some (.slice S m l) := (hb.cell (by simp)).trans (by simp)
  have d3 : w1.cell? ⟨w.heap.size, 3, none⟩ = some (.int .i64 c.uses) := (hb.cell (by simp)).trans (by simp)
  have hwz : wb < w1.heap.size := by omega
  have s1 : w1.cell? ⟨wb, wo + at_, none⟩ = some (.int .u64 (s : Int)) := (hb.cell (by simp; omega)).trans ((World.cell?_alloc_lt _ _ _ hwx).trans hs)
  have n1 : w1.cell? ⟨wb, wo + (at_ + 1), none⟩ = some (.int .u64 (num : Int)) := (hb.cell (by simp; omega)).trans ((World.cell?_alloc_lt _ _ _ hwx).trans hnum)
  have h1 := (h'.below (hb.mono (by simp))).up (B' := w1.heap.size) (by omega)
  have H1 : Hid (∀ W, Below w1.heap.size w1 W → MulAt W W.heap.size A n k S m l c) := fun W hW => (h1.below hW).up hW.size
  have HS : Hid (∀ W, Below w1.heap.size w1 W → Below w1.heap.size w1 W ∧ W.cell? ⟨w.heap.size, 0, none⟩ = some (.int .i64 c.threads) ∧ W.cell? ⟨w.heap.size, 1, none⟩ = some (.slice A n k) ∧ W.cell? ⟨w.heap.size, 2, none⟩ = some (.slice S m l) ∧ W.cell? ⟨w.heap.size, 3, none⟩ = some (.int .i64 c.uses) ∧ W.cell? ⟨wb, wo + (at_ + 1), none⟩ = some (.int .u64 (num : Int))) :=
    fun W hB => ⟨hB, (hB.cell (by dsimp only; omega)).trans d0, (hB.cell (by dsimp only; omega)).trans d1, (hB.cell (by dsimp only; omega)).trans d2, (hB.cell (by dsimp only; omega)).trans d3, (hB.cell (by dsimp only; omega)).trans n1⟩
  have q1 : IntKind.i64.wrap ((at_ : Int) + 1) = (at_ : Int) + 1 := IntWalk.i64_in _ (by omega)
  have q2 : (0 : Int) ≤ (at_ : Int) + 1 := by omega
  have q3 : ((at_ : Int) + 1).toNat = at_ + 1 := by omega
  have HS1 := Lib.hid s1
  have HB := Lib.hid hb
  clear h' h h1 hs hnum hx hb s1 hT1 hT2 hn2 hP1 hP2 r0 r2 hx4 g15 hhx hx0 e5 hxd hx2 hxl hcell hwx
  go_upto_region 11 with fail
  go_cut [12, 13] (fun s12 s13 wc => ∃ g, s12 = .pointer (some ⟨g, 0, none⟩) ∧ s13 = .bool (entFound c num cell).isSome ∧ w1.heap.size ≤ g ∧ Below w1.heap.size w1 wc ∧
    wc.cell? ⟨g, 0, none⟩ = some (.int .i64 ((entFound c num cell).getD zeroE).1) ∧ wc.cell? ⟨g, 1, none⟩ = some (.int .i64 ((entFound c num cell).getD zeroE).2.1) ∧ wc.cell? ⟨g, 2, none⟩ = some (.int .i64 ((entFound c num cell).getD zeroE).2.2))
  case first =>
    go_region_held3 (fun w' => Below w1.heap.size w1 w' ∧ w'.cell? ⟨w.heap.size, 0, none⟩ = some (.int .i64 c.threads) ∧ w'.cell? ⟨w.heap.size, 1, none⟩ = some (.slice A n k) ∧ w'.cell? ⟨w.heap.size, 2, none⟩ = some (.slice S m l) ∧ w'.cell? ⟨w.heap.size, 3, none⟩ = some (.int .i64 c.uses) ∧ w'.cell? ⟨wb, wo + (at_ + 1), none⟩ = some (.int .u64 (num : Int)))
      ((refine HS.out _ ?_; go_split_ands; first | assumption | exact (Below.refl _ _).drew | exact Below.trans ‹Below w1.heap.size w1 _› (hb2.mono (‹Below w1.heap.size w1 _›).size) | exact Below.alloc ‹Below w1.heap.size w1 _› (‹Below w1.heap.size w1 _›).size _ | exact below_swap ‹Below w1.heap.size w1 _› hz2 | exact ((Below.setCell ‹Below w1.heap.size w1 _› (p := ⟨_, 0, none⟩) (Nat.le_refl _) _).setCell (p := ⟨_, 1, none⟩) (Nat.le_refl _) _).setCell (p := ⟨_, 2, none⟩) (Nat.le_refl _) _))
      ((go_at_call 106; refine (entryOf_any c A n k S m l _ (by go_split_ands; exact H1.out _ (by assumption)) num _ hnl).mono ?_; rintro e w2 ⟨rfl, hb2⟩; have hz2 := hb2.size; first | (obtain ⟨eN, ef⟩ := new_after hb2; have e0 := eN 0 _ rfl; have e1 := eN 1 _ rfl; have e2 := eN 2 _ rfl; clear eN) | skip))
    all_goals (go_wp2_with fail; go_meet; go_split_ands; go_light)
    · refine ⟨_, rfl, rfl, hz2, by assumption, ?_, ?_, ?_⟩ <;> simp
    · exact ⟨_, rfl, rfl, Nat.le_refl _, by assumption, set3 e0 e1 e2⟩
  case rest =>
    obtain ⟨g, rfl, rfl, hg, hbc, k0, k1, k2⟩ := hcut
    have s2 := (hbc.cell (by dsimp only; omega)).trans HS1.out
    clear H1 HS HS1 d0 d1 d2 d3 n1 q1 q2 q3 hnl
    have hbw : Below w.heap.size w wc := (((Below.refl _ _).alloc (Nat.le_refl _) _).trans (HB.out.mono (by simp))).trans (hbc.mono (by omega))
    have HBW := Lib.hid hbw
    clear hbw HB
    go_upto_region 12 with fail
    by_cases hs1 : s = 1
    · subst hs1
      have hv : val2 (entFound c num cell) 1 = (entFound c num cell).map (·.2.2) := rfl
      have Hv := Lib.hid hv
      clear hv
      go_wp2_with fail
      go_ret2
      refine ⟨((entFound c num cell).getD zeroE).2.2, by rw [Hv.out, Option.isSome_map]; rfl, fun y hy => ?_, HBW.out⟩
      rw [Hv.out] at hy
      cases hf : entFound c num cell with
      | none => rw [hf] at hy; simp at hy
      | some e => rw [hf] at hy; simpa using hy
    · have hb1 : ((s : Int) == 1) = false := by rw [beq_eq_false_iff_ne]; omega
      have Hs1 := Lib.hid hs1
      clear hs1
      have hat5 : (at_ : Int) < (wn : Int) := by omega
      have hat6 : (0 : Int) ≤ (at_ : Int) := Int.natCast_nonneg _
      go_upto_region 14 with fail
      generalize hfe : entFound c num cell = fe at *
      cases fe with
      | none =>
        have hv : val2 (none : Option Ent) s = none := by unfold val2; split <;> (try split) <;> rfl
        have Hv := Lib.hid hv
        clear hv
        go_wp2_with fail
        go_quiet (fail)
        go_wp2_with fail
        go_ret2
        exact ⟨0, by rw [Hv.out]; rfl, fun y hy => by (rw [Hv.out] at hy; cases hy), HBW.out.drewN _⟩
      | some e =>
        by_cases hs2 : s ≤ 2
        · have hsb : decide ((s : Int) ≤ 2) = true := by simp; omega
          have hv : val2 (some e) s = some e.2.1 := by unfold val2; rw [if_neg Hs1.out, if_pos hs2]; rfl
          have Hv := Lib.hid hv
          clear hv
          go_wp2_with fail
          go_quiet (fail)
          go_wp2_with fail
          go_ret2
          exact ⟨e.2.1, by rw [Hv.out]; rfl, fun y hy => by (rw [Hv.out] at hy; injection hy), HBW.out.drewN _⟩
        · have hsb : decide ((s : Int) ≤ 2) = false := by simp; omega
          have hv : val2 (some e) s = none := by unfold val2; rw [if_neg Hs1.out, if_neg hs2]
          have Hv := Lib.hid hv
          clear hv
          go_wp2_with fail
          go_quiet (fail)
          go_wp2_with fail
          go_ret2
          exact ⟨e.2.1, by rw [Hv.out]; rfl, fun y hy => by (rw [Hv.out] at hy; cases hy), HBW.out.drewN _⟩
end Go.Proofs.Ytgbopmgeicokoaa
