/-
  reclaimref25.cell: a cell whose word is a descriptor's.
-/
import Derived.Test.YtgbopmgeicokoaaRefEn
import Derived.Deep.RegionHeld3
namespace Go.Proofs.Ytgbopmgeicokoaa
open Go.RowKit

theorem entFound_some {c : Mul} {num : Nat} {cell : Int} {x : Ent} (h : entFound c num cell = some x) : ∃ es, c.swaps[num]? = some es ∧ c.swaps.getD num [] = es := by
  unfold entFound at h
  rw [List.getD_eq_getElem?_getD] at h
  cases hs : c.swaps[num]? with
  | none => rw [hs] at h; cases h
  | some es => exact ⟨es, rfl, by rw [List.getD_eq_getElem?_getD, hs]; rfl⟩

set_option maxRecDepth 100000 in
set_option maxHeartbeats 1000000 in
theorem rcell_2 (c : Mul) (A : Option Addr) (n k : Nat) (S : Option Addr) (m l : Nat) (wb wo wn wk : Nat) (w : World) (h : MulAt w w.heap.size A n k S m l c) (hF : OkF c) (cell x s num : Nat)
    (hx : w.cell? ⟨wb, wo + cell, none⟩ = some (.int .u64 (x : Int))) (hcell : cell < n) (hx2 : x % 4 = 2) (hxd : (x : Int) / 4 < c.threads * c.uses) (hxl : Hid (x < 18446744073709551616))
    (hwn : (wn : Int) = n + c.threads + 2 * c.threads * c.uses) (at_ : Nat) (hat : (at_ : Int) = n + c.threads + 2 * ((x : Int) / 4))
    (hs : w.cell? ⟨wb, wo + at_, none⟩ = some (.int .u64 (s : Int))) (hnum : w.cell? ⟨wb, wo + (at_ + 1), none⟩ = some (.int .u64 (num : Int))) :
    Calls Try.prog 57 #[mulV c A n k S m l, .slice (some ⟨wb, wo, none⟩) wn wk, .int .i64 (cell : Int)] w (HeldR (val2 (entFound c num cell) s) w) := by
  have hn := h.n_eq
  have hm := h.m_eq
  have hT1 := hF.t1
  have hT2 := hF.t2
  have hn2 := hF.n2
  have hm2 := hF.m2
  have hTU2 := hF.tu2
  rw [← hn] at hn2
  rw [← hm] at hm2
  have hP := hF.tu
  have hP1 := hP.1
  have hP2 := hP.2
  have h' := h.below ((Below.refl _ _).alloc (Nat.le_refl _) (.cells #[.int .i64 c.threads, .slice A n k, .slice S m l, .int .i64 c.uses] 33))
  have r0 : ((x : Int) % 4 == 0) = false := by rw [beq_eq_false_iff_ne]; omega
  have r2 : ((x : Int) % 4 == 2) = true := by rw [beq_iff_eq]; omega
  have hwx : wb < w.heap.size := World.block_lt_of_cell? w _ hx
  have e5 : (cell : Int) < wn := by rw [hwn]; omega
  have e6 : cell < wn := by omega
  have hx0 : 0 ≤ (x : Int) / 4 := by omega
  have hhx : (x : Int) / 4 < 65536 := by omega
  have g15 : decide (c.threads * c.uses ≤ (x : Int) / 4) = false := by rw [decide_eq_false_iff_not]; omega
  have u1 : IntKind.u64.wrap ((x : Int) / 4) = (x : Int) / 4 := u64_div hxl (by omega)
  have hatx : (n : Int) + c.threads + 2 * ((x : Int) / 4) = (at_ : Int) := hat.symm
  have hat2 : (at_ : Int) + 1 < wn := by rw [hwn, Int.mul_assoc]; omega
  have hat3 : at_ + 1 < wn := by omega
  have hat4 : (at_ : Int) < 65536 := by omega
  have hat5 : (at_ : Int) < (wn : Int) := by omega
  have hat6 : at_ < wn := by omega
  have hat7 : (0 : Int) ≤ (at_ : Int) := Int.natCast_nonneg _
  have q1 : IntKind.i64.wrap ((at_ : Int) + 1) = (at_ : Int) + 1 := IntWalk.i64_in _ (by omega)
  have q2 : (0 : Int) ≤ (at_ : Int) + 1 := by omega
  have q3 : ((at_ : Int) + 1).toNat = at_ + 1 := by omega
  have Hatx := Lib.hid hatx
  have HE : Hid (∀ W, Below (w.alloc (.cells #[.int .i64 c.threads, .slice A n k, .slice S m l, .int .i64 c.uses] 33)).heap.size (w.alloc (.cells #[.int .i64 c.threads, .slice A n k, .slice S m l, .int .i64 c.uses] 33)) W → Calls Try.prog 109 #[mulV c A n k S m l, .slice (some ⟨wb, wo, none⟩) wn wk, .int .i64 ((x : Int) / 4), .int .i64 (cell : Int)] W (EntryR c num cell W)) := by
    intro W hW
    have hz := hW.size
    simp at hz
    exact entry_any c A n k S m l wb wo wn wk W ((h'.below (hW.mono (by simp))).up (by omega)) hF _ hx0 hxd cell num hwn at_ hat ((hW.cell (by simp; omega)).trans ((World.cell?_alloc_lt _ _ _ hwx).trans hnum))
  have Hwn := Lib.hid hwn
  have Hm := Lib.hid hm
  have HM := Lib.hid h'
  have hsw : (w.alloc (.cells #[.int .i64 c.threads, .slice A n k, .slice S m l, .int .i64 c.uses] 33)).cell? ⟨wb, wo + at_, none⟩ = some (.int .u64 (s : Int)) := (World.cell?_alloc_lt _ _ _ hwx).trans hs
  have hnw : (w.alloc (.cells #[.int .i64 c.threads, .slice A n k, .slice S m l, .int .i64 c.uses] 33)).cell? ⟨wb, wo + (at_ + 1), none⟩ = some (.int .u64 (num : Int)) := (World.cell?_alloc_lt _ _ _ hwx).trans hnum
  have HSW := Lib.hid hsw
  have HNW := Lib.hid hnw
  clear hn hm hwn hat hatx hF hP hTU2 h h' hs hnum hsw hnw hxd
  go_enter Try.func57, Try.ntmps57
  go_wp2_with fail
  refine (HE.out _ (Below.refl _ _)).mono ?_
  rintro e w1 ⟨i, rfl, hb, hi⟩
  have hz : w.heap.size < w1.heap.size := by have := hb.size; simp at this; omega
  have d0 : w1.cell? ⟨w.heap.size, 0, none⟩ = some (.int .i64 c.threads) := (hb.cell (by simp)).trans (by simp)
  have d1 : w1.cell? ⟨w.heap.size, 1, none⟩ = some (.slice A n k) := (hb.cell (by simp)).trans (by simp)
  have d2 : w1.cell? ⟨w.heap.size, 2, none⟩ = some (.slice S m l) := (hb.cell (by simp)).trans (by simp)
  have d3 : w1.cell? ⟨w.heap.size, 3, none⟩ = some (.int .i64 c.uses) := (hb.cell (by simp)).trans (by simp)
  have Hi := Lib.hid hi
  have HB := Lib.hid hb
  clear hi hb HE
  go_wp2_with fail
  refine (rstatus_any c A n k S m l _ _ hT1 hT2 hn2 hx0 hhx).mono ?_
  rw [Hatx.out]
  rintro e w2 ⟨rfl, hb2⟩
  have hz2 : w1.heap.size ≤ w2.heap.size := hb2.size
  have hbb : Below (w.alloc (.cells #[.int .i64 c.threads, .slice A n k, .slice S m l, .int .i64 c.uses] 33)).heap.size (w.alloc (.cells #[.int .i64 c.threads, .slice A n k, .slice S m l, .int .i64 c.uses] 33)) w2 := HB.out.trans (hb2.mono HB.out.size)
  have s2 : w2.cell? ⟨wb, wo + at_, none⟩ = some (.int .u64 (s : Int)) := (hbb.cell (by simp; omega)).trans HSW.out
  have n2 : w2.cell? ⟨wb, wo + (at_ + 1), none⟩ = some (.int .u64 (num : Int)) := (hbb.cell (by simp; omega)).trans HNW.out
  have z0 : w2.cell? ⟨w.heap.size, 0, none⟩ = some (.int .i64 c.threads) := (hb2.cell hz).trans d0
  have z1 : w2.cell? ⟨w.heap.size, 1, none⟩ = some (.slice A n k) := (hb2.cell hz).trans d1
  have z2 : w2.cell? ⟨w.heap.size, 2, none⟩ = some (.slice S m l) := (hb2.cell hz).trans d2
  have z3 : w2.cell? ⟨w.heap.size, 3, none⟩ = some (.int .i64 c.uses) := (hb2.cell hz).trans d3
  have hM2 := HM.out.below (hbb.mono (by simp))
  have HM2 := Lib.hid hM2
  have HBW := Lib.hid (box_below _ _ hbb)
  have hwb2 : wb < w2.heap.size := by omega
  have hw2 : w.heap.size < w2.heap.size := by omega
  clear d0 d1 d2 d3 hb2 HB HM HSW HNW hM2 hbb
  go_upto_region 12 with fail
  cases hfe : entFound c num cell with
  | none =>
    have hv : val2 (entFound c num cell) s = none := by rw [hfe]; unfold val2; split <;> (try split) <;> rfl
    have Hv := Lib.hid hv
    clear hv hfe
    go_wp2_with fail
    go_ret2
    exact HeldR.no Hv.out HBW.out _
  | some ex =>
    obtain ⟨e0, e1, e2⟩ := ex
    have Hfe := Lib.hid hfe
    by_cases hs2 : 2 < s
    · have hsb : decide ((2 : Int) < (s : Int)) = true := decide_eq_true (by omega)
      have hv : val2 (entFound c num cell) s = none := by rw [hfe]; unfold val2; rw [if_neg (by omega), if_neg (by omega)]
      have Hv := Lib.hid hv
      clear hv hfe
      go_wp2_with fail
      go_ret2
      exact HeldR.no Hv.out HBW.out _
    have hsb : decide ((2 : Int) < (s : Int)) = false := decide_eq_false (by omega)
    obtain ⟨es, hes, hg⟩ := entFound_some hfe
    have hie := Hi.out _ hfe
    rw [hg] at hie
    have hnm : num < m := by rw [Hm.out]; exact (List.getElem?_eq_some_iff.1 hes).1
    obtain ⟨bb, o, A', n', c', rfl, hbb, hc0, hsl, hn', hc1, hc2⟩ := HM2.out.swap hes
    have hin : i < n' := by rw [hn']; exact (List.getElem?_eq_some_iff.1 hie).1
    obtain ⟨b1, o1, rfl, hb1, hc⟩ := hsl.2 (by omega)
    obtain ⟨g0, g1, g2⟩ := entVals_get _ _ _ hie
    have c0 : w2.cell? ⟨b1, o1 + i * 3, none⟩ = some (.int .i64 e0) := hc _ _ g0
    have c1 : w2.cell? ⟨b1, o1 + i * 3 + 1, none⟩ = some (.int .i64 e1) := hc _ _ g1
    have c2 : w2.cell? ⟨b1, o1 + i * 3 + 2, none⟩ = some (.int .i64 e2) := hc _ _ g2
    unfold maxLen at hc2
    have HS : Hid (∀ W, Below w2.heap.size w2 W → Below w2.heap.size w2 W ∧ W.cell? ⟨w.heap.size, 0, none⟩ = some (.int .i64 c.threads) ∧ W.cell? ⟨w.heap.size, 1, none⟩ = some (.slice A n k) ∧ W.cell? ⟨w.heap.size, 2, none⟩ = some (.slice (some ⟨bb, o, none⟩) m l) ∧ W.cell? ⟨w.heap.size, 3, none⟩ = some (.int .i64 c.uses) ∧ W.cell? ⟨wb, wo + (at_ + 1), none⟩ = some (.int .u64 (num : Int)) ∧ W.cell? ⟨bb, o + num, none⟩ = some (.slice (some ⟨b1, o1, none⟩) n' c') ∧ W.cell? ⟨b1, o1 + i * 3, none⟩ = some (.int .i64 e0) ∧ W.cell? ⟨b1, o1 + i * 3 + 1, none⟩ = some (.int .i64 e1) ∧ W.cell? ⟨b1, o1 + i * 3 + 2, none⟩ = some (.int .i64 e2)) :=
      fun W hB => ⟨hB, (hB.cell (by dsimp only; omega)).trans z0, (hB.cell (by dsimp only; omega)).trans z1, (hB.cell (by dsimp only; omega)).trans z2, (hB.cell (by dsimp only; omega)).trans z3, (hB.cell (by dsimp only; omega)).trans n2, (hB.cell (by dsimp only; omega)).trans hc0, (hB.cell (by dsimp only; omega)).trans c0, (hB.cell (by dsimp only; omega)).trans c1, (hB.cell (by dsimp only; omega)).trans c2⟩
    have p1 : (0 : Int) ≤ (num : Int) := Int.natCast_nonneg _
    have p2 : (num : Int) < (m : Int) := by omega
    have p3 : IntKind.i64.wrap (num : Int) = (num : Int) := IntWalk.i64_in _ (by omega)
    have p4 : (0 : Int) ≤ (i : Int) := Int.natCast_nonneg _
    have p5 : (i : Int) < (n' : Int) := by omega
    have HS2 := Lib.hid s2
    clear hfe hes hg hie hsl hn' hc g0 g1 g2 Hi HM2 s2
    go_upto_region 14 with fail
    go_cut [14] (fun s14 wc => ∃ g, s14 = .pointer (some ⟨g, 0, none⟩) ∧ w2.heap.size ≤ g ∧ Below w2.heap.size w2 wc ∧
      wc.cell? ⟨g, 0, none⟩ = some (.int .i64 e0) ∧ wc.cell? ⟨g, 1, none⟩ = some (.int .i64 e1) ∧ wc.cell? ⟨g, 2, none⟩ = some (.int .i64 e2))
    case first =>
      clear HS2 HBW Hfe
      go_region_held3 (fun W => Below w2.heap.size w2 W ∧ W.cell? ⟨w.heap.size, 0, none⟩ = some (.int .i64 c.threads) ∧ W.cell? ⟨w.heap.size, 1, none⟩ = some (.slice A n k) ∧ W.cell? ⟨w.heap.size, 2, none⟩ = some (.slice (some ⟨bb, o, none⟩) m l) ∧ W.cell? ⟨w.heap.size, 3, none⟩ = some (.int .i64 c.uses) ∧ W.cell? ⟨wb, wo + (at_ + 1), none⟩ = some (.int .u64 (num : Int)) ∧ W.cell? ⟨bb, o + num, none⟩ = some (.slice (some ⟨b1, o1, none⟩) n' c') ∧ W.cell? ⟨b1, o1 + i * 3, none⟩ = some (.int .i64 e0) ∧ W.cell? ⟨b1, o1 + i * 3 + 1, none⟩ = some (.int .i64 e1) ∧ W.cell? ⟨b1, o1 + i * 3 + 2, none⟩ = some (.int .i64 e2))
        ((refine HS.out _ ?_; go_split_ands; first | assumption | exact (Below.refl _ _).drew | exact Below.trans ‹Below w2.heap.size w2 _› (hb3.mono (‹Below w2.heap.size w2 _›).size) | exact Below.alloc ‹Below w2.heap.size w2 _› (‹Below w2.heap.size w2 _›).size _ | exact below_swap ‹Below w2.heap.size w2 _› hz3 | exact ((Below.setCell ‹Below w2.heap.size w2 _› (p := ⟨_, 0, none⟩) (Nat.le_refl _) _).setCell (p := ⟨_, 1, none⟩) (Nat.le_refl _) _).setCell (p := ⟨_, 2, none⟩) (Nat.le_refl _) _))
        ((go_at_call 110; refine (rstatus_any c A n k (some ⟨bb, o, none⟩) m l _ _ hT1 hT2 hn2 hx0 hhx).mono ?_; rw [Hatx.out]; rintro e w3 ⟨rfl, hb3⟩; have hz3 := hb3.size; first | (obtain ⟨eN, ef⟩ := new_after hb3; have f0 := eN 0 _ rfl; have f1 := eN 1 _ rfl; have f2 := eN 2 _ rfl; clear eN) | skip))
      all_goals (go_wp2_with fail; go_meet; go_split_ands; go_light)
      all_goals first
        | exact ⟨_, rfl, Nat.le_refl _, by assumption, set3 f0 f1 f2⟩
        | (refine ⟨_, rfl, hz3, by assumption, ?_, ?_, ?_⟩ <;> simp)
    case rest =>
      obtain ⟨g, rfl, hg, hbc, k0, k1, k2⟩ := hcut
      have HBW2 := Lib.hid (HBW.out.trans (hbc.mono (by omega)))
      clear HS z0 z1 z2 z3 n2 c0 c1 c2 q1 q2 q3
      by_cases hs1 : s = 1
      · subst hs1
        have hv : val2 (entFound c num cell) 1 = some e2 := by rw [Hfe.out]; rfl
        have Hv := Lib.hid hv
        clear hv
        go_wp2_with fail
        go_ret2
        exact HeldR.yes Hv.out HBW2.out
      · have hb1 : ((s : Int) == 1) = false := by rw [beq_eq_false_iff_ne]; omega
        have hv : val2 (entFound c num cell) s = some e1 := by rw [Hfe.out]; unfold val2; rw [if_neg hs1, if_pos (by omega)]; rfl
        have Hv := Lib.hid hv
        clear hv hs1
        go_wp2_with fail
        go_ret2
        exact HeldR.yes Hv.out HBW2.out
end Go.Proofs.Ytgbopmgeicokoaa
