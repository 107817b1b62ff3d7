/-
  The document's reader of counts.
-/
import Derived.Test.YtgbopmgeicokoaaRdN
namespace Go.Proofs.Ytgbopmgeicokoaa
open Go.RowKit

/-- the document's count: nothing, and what is left stays; or the number, the rest, whether it was written too long -/
def cntQ : Nat → Nat → List Nat → Option (Nat × List Nat × Bool)
  | _, _, [] => none
  | i, n, x :: l => if 9 < i ∨ (i = 9 ∧ 1 < x) then none else if x < 128 then some (n + x % 128 * 128 ^ i, l, decide (0 < i ∧ x = 0)) else cntQ (i + 1) (n + x % 128 * 128 ^ i) l
theorem cntQ_bad {i n x : Nat} {l : List Nat} (h : 9 < i ∨ (i = 9 ∧ 1 < x)) : cntQ i n (x :: l) = none := by
  show (if _ then none else _) = _
  rw [if_pos h]
theorem cntQ_last {i n x : Nat} {l : List Nat} (h : ¬ (9 < i ∨ (i = 9 ∧ 1 < x))) (hx : x < 128) : cntQ i n (x :: l) = some (n + x % 128 * 128 ^ i, l, decide (0 < i ∧ x = 0)) := by
  show (if _ then none else if _ then _ else _) = _
  rw [if_neg h, if_pos hx]
theorem cntQ_more {i n x : Nat} {l : List Nat} (h : ¬ (9 < i ∨ (i = 9 ∧ 1 < x))) (hx : ¬ x < 128) : cntQ i n (x :: l) = cntQ (i + 1) (n + x % 128 * 128 ^ i) l := by
  show (if _ then none else if _ then _ else _) = _
  rw [if_neg h, if_neg hx]
def cntT (s : Rs) : Nat × Rs := match cntQ 0 0 s.1 with
  | some (m, l, b) => (m, l, s.2 || b)
  | none => (0, s.1, true)
def RCntR (B gr : Nat) (s : Rs) (w : World) (e : Ending) (w' : World) : Prop := ∃ A n k, e = .returned (.int .u64 (cntT s).1) ∧ RdAt w' B gr 190 A n k (cntT s).2 ∧ w.grownBy w' (some gr)
section
variable {B gr n k : Nat} {A : Option Addr} {s : Rs} {w : World}
theorem RdAt.spoil' (h : RdAt w B gr 190 A n k s) (hB : B ≤ gr) : RdAt (w.setCell ⟨gr, 1, none⟩ (.bool true)) B gr 190 A n k (s.1, true) :=
  ⟨h.blk.set_ 1 _, h.sl.gb (gb_set (World.grownBy.refl w _) 1 _) hB h.blk.lt, h.nk, h.km, h.by8⟩
theorem RdAt.step' {b o j : Nat} (h : RdAt w B gr 190 (some ⟨b, o, none⟩) n k s) (hB : B ≤ gr) (hj : j < n) :
    RdAt (w.setCell ⟨gr, 0, none⟩ (.slice (some ⟨b, o + (j + 1), none⟩) (n - (j + 1)) (k - (j + 1)))) B gr 190 (some ⟨b, o + (j + 1), none⟩) (n - (j + 1)) (k - (j + 1)) (s.1.drop (j + 1), s.2) := by
  have hg : w.grownBy (w.setCell ⟨gr, 0, none⟩ (.slice (some ⟨b, o + (j + 1), none⟩) (n - (j + 1)) (k - (j + 1)))) (some gr) := gb_set (World.grownBy.refl w _) 0 _
  have hlt := h.blk.lt
  refine ⟨h.blk.set_ 0 _, ?_, ?_, Nat.le_trans (Nat.sub_le _ _) h.km, fun x hx => h.by8 x (List.mem_of_mem_drop hx)⟩
  · refine ⟨by rw [u8s_len, List.length_drop, h.len]; omega, fun hn => ?_⟩
    obtain ⟨b', o', e, hb, hcs⟩ := (h.sl.gb hg hB hlt).2 (by omega)
    injection e with e
    injection e with e1 e2
    subst e1 e2
    refine ⟨b, o + (j + 1), rfl, hb, fun q u hu => ?_⟩
    rw [Nat.add_assoc]
    refine hcs _ u ?_
    have h5 : (u8s s.1)[j + 1 + q]? = (u8s (s.1.drop (j + 1)))[q]? := by simp [u8s]
    rw [h5]
    exact hu
  · have := h.nk
    omega
end

set_option maxRecDepth 100000 in
set_option maxHeartbeats 4000000 in
theorem rrdcount_any (B gr : Nat) (A : Option Addr) (n k : Nat) (s : Rs) (w : World) (h : RdAt w B gr 190 A n k s) (hB : B ≤ gr) :
    Calls Try.prog 119 #[.pointer (some ⟨gr, 0, none⟩)] w (RCntR B gr s w) := by
  have HLen := Lib.hid h.len
  have H := Lib.hid h
  have hnk := h.nk
  have hkm := h.km
  clear h
  go_enter Try.func119, Try.ntmps119
  go_wp2_with fail
  go_loopg [3, 4] n (fun gk v0 i wr => ∃ j m : Nat, j + gk = n ∧ i = .int .i64 j ∧ v0 = .int .u64 m ∧ m < 128 ^ j ∧ j ≤ 10 ∧ w = wr ∧ Hid (cntQ 0 0 s.1 = cntQ j m (s.1.drop j)))
  case atStart => exact ⟨0, 0, by omega, rfl, rfl, by simp, by omega, rfl, by rw [List.drop_zero]; rfl⟩
  case round =>
    obtain ⟨j, m, hj, rfl, rfl, hm, hj10, rfl, HC⟩ := hrel
    have c0 : w.cell? ⟨gr, 0, none⟩ = some (.slice A n k) := H.out.blk.cell rfl
    have c1 : w.cell? ⟨gr, 1, none⟩ = some (.bool s.2) := H.out.blk.cell rfl
    have f0 := H.out.blk.frozen 0
    have f1 := H.out.blk.frozen 1
    have e0 : (0 : Int) ≤ j := by omega
    by_cases hlt : j < n
    · obtain ⟨x, hx⟩ := at_lt (by rw [HLen.out]; exact hlt : j < s.1.length)
      have hx8 := H.out.by8 x (List.mem_of_getElem? hx)
      obtain ⟨b, o, rfl, hb, hc⟩ := H.out.sl.2 (by omega)
      have cx := hc j _ (u8s_get hx)
      have hd := drop_cons hx
      have HD := Lib.hid hd
      have ea : decide ((n : Int) ≤ j) = false := by simp; omega
      have eb : decide (n ≤ j) = false := by simp; omega
      have ec : (j : Int) < n := by omega
      clear hc hd hx
      go_upto_region 4 with fail
      go_cut [31] (fun s31 wc => s31 = .bool (decide (9 < j ∨ (j = 9 ∧ 1 < x))) ∧ w = wc)
      case first =>
        by_cases j9 : 9 < j
        · have da : decide ((9 : Int) < j) = true := by simp; omega
          have db : decide (9 < j) = true := by simp; omega
          have dc : (9 : Int) < j := by omega
          go_wp2_with fail
          go_meet
          exact ⟨congrArg Value.bool (by first | (simp; done) | (simp; omega)), rfl⟩
        by_cases je9 : j = 9
        · subst je9
          by_cases x1 : 1 < x
          · have da : decide ((1 : Int) < x) = true := by simp; omega
            have db : decide (1 < x) = true := by simp; omega
            have dc : (1 : Int) < x := by omega
            go_wp2_with fail
            go_meet
            exact ⟨congrArg Value.bool (by first | (simp; done) | (simp; omega)), rfl⟩
          · have da : decide ((1 : Int) < x) = false := by simp; omega
            have db : decide (1 < x) = false := by simp; omega
            have dc : ¬ (1 : Int) < x := by omega
            go_wp2_with fail
            go_meet
            exact ⟨congrArg Value.bool (by first | (simp; done) | (simp; omega)), rfl⟩
        · have da : decide ((9 : Int) < j) = false := by simp; omega
          have db : decide (9 < j) = false := by simp; omega
          have dc : ¬ (9 : Int) < j := by omega
          have q0 : ((j : Int) == 9) = false := by simp; omega
          go_wp2_with fail
          go_meet
          exact ⟨congrArg Value.bool (by first | (simp; done) | (simp; omega)), rfl⟩
      case rest =>
        obtain ⟨rfl, rfl⟩ := hcut
        by_cases hbad : 9 < j ∨ (j = 9 ∧ 1 < x)
        · have hdf : decide (9 < j ∨ (j = 9 ∧ 1 < x)) = true := decide_eq_true hbad
          rw [hdf]
          have HT := Lib.hid (show cntT s = (0, s.1, true) by unfold cntT; rw [HC.out, HD.out, cntQ_bad hbad])
          clear hdf hbad cx
          go_wp2_with fail
          go_ret
          exact ⟨_, n, k, by rw [HT.out]; rfl, by rw [HT.out]; exact H.out.spoil' hB, gb_set (World.grownBy.refl w _) 1 _⟩
        · have hdf : decide (9 < j ∨ (j = 9 ∧ 1 < x)) = false := decide_eq_false hbad
          rw [hdf]
          have hj9 : j ≤ 9 := by omega
          have hx1 : j = 9 → x ≤ 1 := by omega
          have b2 : IntKind.i64.wrap (7 * (j : Int)) = 7 * (j : Int) := IntWalk.i64_in _ (by omega)
          obtain ⟨Y, hY⟩ : ∃ Y, Y = x % 128 * 128 ^ j := ⟨_, rfl⟩
          have hp : (128 : Nat) ^ j = 2 ^ (7 * j) := by rw [Nat.pow_mul]
          have hY64 : m + Y < 18446744073709551616 := by
            have h9 : (128 : Nat) ^ j ≤ 128 ^ 9 := Nat.pow_le_pow_right (by omega) hj9
            rcases Nat.lt_or_ge j 9 with h8 | h8
            · have h7 : (128 : Nat) ^ j ≤ 128 ^ 8 := Nat.pow_le_pow_right (by omega) (by omega)
              have h6 : x % 128 * 128 ^ j ≤ 127 * 128 ^ 8 := Nat.mul_le_mul (by omega) h7
              omega
            · have h6 : x % 128 * 128 ^ j ≤ 1 * 128 ^ 9 := Nat.mul_le_mul (by have := hx1 (by omega); omega) h9
              omega
          have hM2 : m + Y < 128 ^ (j + 1) := by
            rw [Nat.pow_succ, hY]
            have : x % 128 * 128 ^ j ≤ 127 * 128 ^ j := Nat.mul_le_mul (by omega) (Nat.le_refl _)
            omega
          have b3 : IntKind.u64.wrap ((x : Int) % 128 * 2 ^ (7 * j)) = (Y : Int) := by
            have h9 : (x : Int) % 128 * 2 ^ (7 * j) = (Y : Int) := by
              rw [hY, hp]
              simp
            rw [h9, u64_wrap']
            omega
          obtain ⟨M, hM⟩ : ∃ M, M = m + Y := ⟨_, rfl⟩
          have b4 : (m : Int) + (Y : Int) = (M : Int) := by omega
          have b5 : IntKind.u64.wrap (M : Int) = (M : Int) := by rw [u64_wrap']; omega
          rw [← hM] at hM2 hY64
          have HMm : Hid (x = 0 → M = m) := fun h => by rw [hM, hY, h]; simp
          by_cases hx128 : x < 128
          · have HQ := Lib.hid (show cntQ 0 0 s.1 = some (M, s.1.drop (j + 1), decide (0 < j ∧ x = 0)) by rw [HC.out, HD.out, cntQ_last hbad hx128, hM, hY])
            have da : decide ((x : Int) < 128) = true := by simp; omega
            have db : decide (x < 128) = true := by simp; omega
            have dc : (x : Int) < 128 := by omega
            have dk1 : (j : Int) + 1 ≤ n := by omega
            have dk2 : (n : Int) ≤ k := by omega
            have dk3 : j + 1 ≤ n := by omega
            have dk4 : n ≤ k := by omega
            clear hdf hbad hY hM hp hM2 HC
            by_cases hl : 0 < j ∧ x = 0
            · have HT := Lib.hid (show cntT s = (m, s.1.drop (j + 1), true) by unfold cntT; rw [HQ.out, HMm.out hl.2]; simp [hl])
              obtain ⟨hl0, hlx⟩ := hl
              subst hlx
              have dd : decide ((0 : Int) < j) = true := by simp; omega
              have de : decide (0 < j) = true := by simp; omega
              have df : (0 : Int) < j := by omega
              go_wp2_with fail
              go_ret
              exact ⟨_, _, _, by rw [HT.out]; rfl, by rw [HT.out]; exact (H.out.spoil' hB).step' hB hlt, gb_set (gb_set (World.grownBy.refl w _) 1 _) 0 _⟩
            · have HT := Lib.hid (show cntT s = (M, s.1.drop (j + 1), s.2) by unfold cntT; rw [HQ.out]; simp [hl])
              by_cases hl0 : 0 < j
              · have dd : decide ((0 : Int) < j) = true := by simp; omega
                have de : decide (0 < j) = true := by simp; omega
                have df : (0 : Int) < j := by omega
                have q1 : ((x : Int) == 0) = false := by simp; omega
                clear hl
                go_wp2_with fail
                go_ret
                exact ⟨_, _, _, by rw [HT.out]; rfl, by rw [HT.out]; exact H.out.step' hB hlt, gb_set (World.grownBy.refl w _) 0 _⟩
              · have dd : decide ((0 : Int) < j) = false := by simp; omega
                have de : decide (0 < j) = false := by simp; omega
                have df : ¬ (0 : Int) < j := by omega
                clear hl
                go_wp2_with fail
                go_ret
                exact ⟨_, _, _, by rw [HT.out]; rfl, by rw [HT.out]; exact H.out.step' hB hlt, gb_set (World.grownBy.refl w _) 0 _⟩
          · have HC2 := Lib.hid (show cntQ 0 0 s.1 = cntQ (j + 1) M (s.1.drop (j + 1)) by rw [HC.out, HD.out, cntQ_more hbad hx128, hM, hY])
            have da : decide ((x : Int) < 128) = false := by simp; omega
            have db : decide (x < 128) = false := by simp; omega
            have dc : ¬ (x : Int) < 128 := by omega
            have HM2 := Lib.hid hM2
            clear hdf hbad hY hM hp hM2 HC hm
            go_wp2_with fail
            go_roundg (gk - 1)
            case measure => omega
            case rel => exact ⟨j + 1, M, by omega, by go_num, rfl, HM2.out, by omega, rfl, HC2.out⟩
    · obtain rfl : j = n := by omega
      have HT := Lib.hid (show cntT s = (0, s.1, true) by unfold cntT; rw [HC.out, List.drop_of_length_le (by rw [HLen.out]; exact Nat.le_refl _)]; rfl)
      go_wp2_with fail
      go_ret
      exact ⟨A, j, k, by rw [HT.out]; rfl, by rw [HT.out]; exact H.out.spoil' hB, gb_set (World.grownBy.refl w _) 1 _⟩
end Go.Proofs.Ytgbopmgeicokoaa
