/-
  Readers of counts: plain, the program's and the document's.
-/
import Derived.Test.YtgbopmgeicokoaaCnt
import Derived.Test.YtgbopmgeicokoaaClkRs
namespace Go.Proofs.Ytgbopmgeicokoaa
open Go.RowKit

/-- a count out of bytes, its first i bytes read: its number and the rest -/
def cntP : Nat → Nat → List Nat → Option (Nat × List Nat)
  | _, _, [] => none
  | i, n, x :: l => if 9 < i ∨ (i = 9 ∧ 1 < x) ∨ (0 < i ∧ x = 0) then none else if x < 128 then some (n + x % 128 * 128 ^ i, l) else cntP (i + 1) (n + x % 128 * 128 ^ i) l
theorem cntP_nil (i n : Nat) : cntP i n [] = none := rfl
theorem cntP_bad {i n x : Nat} {l : List Nat} (h : 9 < i ∨ (i = 9 ∧ 1 < x) ∨ (0 < i ∧ x = 0)) : cntP i n (x :: l) = none := by
  show (if _ then none else _) = _
  rw [if_pos h]
theorem cntP_last {i n x : Nat} {l : List Nat} (h : ¬ (9 < i ∨ (i = 9 ∧ 1 < x) ∨ (0 < i ∧ x = 0))) (hx : x < 128) : cntP i n (x :: l) = some (n + x % 128 * 128 ^ i, l) := by
  show (if _ then none else if _ then _ else _) = _
  rw [if_neg h, if_pos hx]
theorem cntP_more {i n x : Nat} {l : List Nat} (h : ¬ (9 < i ∨ (i = 9 ∧ 1 < x) ∨ (0 < i ∧ x = 0))) (hx : ¬ x < 128) : cntP i n (x :: l) = cntP (i + 1) (n + x % 128 * 128 ^ i) l := by
  show (if _ then none else if _ then _ else _) = _
  rw [if_neg h, if_neg hx]
/-- a reader's state: what is left, whether it is bad -/
abbrev Rs := List Nat × Bool
def cntS (s : Rs) : Nat × Rs := match cntP 0 0 s.1 with
  | some (m, l) => (m, l, s.2)
  | none => (0, [], true)
def numS (s : Rs) : Nat × Rs := if 9223372036854775808 ≤ (cntS s).1 then (0, (cntS s).2.1, true) else cntS s
def unsg (m : Nat) : Int := if m % 2 = 0 then ((m / 2 : Nat) : Int) else -((m / 2 : Nat) : Int) - 1
/-- a reader in memory -/
structure RdAt (w : World) (B gr : Nat) (t : TypeId) (A : Option Addr) (n k : Nat) (s : Rs) : Prop where
  blk : Blk w gr t [.slice A n k, .bool s.2]
  sl : Sl w B 1 A n (u8s s.1)
  nk : (n = 0 ∧ k = 0) ∨ n < k
  km : k ≤ maxLen
  by8 : ∀ x ∈ s.1, x < 256
theorem RdAt.len {w : World} {B gr : Nat} {t : TypeId} {A : Option Addr} {n k : Nat} {s : Rs} (h : RdAt w B gr t A n k s) : s.1.length = n := by have := h.sl.1; rw [u8s_len] at this; omega

/-- the program's count -/
def PCntR (B gr : Nat) (s : Rs) (w : World) (e : Ending) (w' : World) : Prop := ∃ A n k, e = .returned (.int .u64 (cntS s).1) ∧ RdAt w' B gr 186 A n k (cntS s).2 ∧ w.grownBy w' (some gr)
theorem or_shift {n y i : Nat} (h : n < 2 ^ i) : n ||| y * 2 ^ i = n + y * 2 ^ i := by
  rw [Nat.or_comm, Nat.mul_comm, ← Nat.two_pow_add_eq_or_of_lt h, Nat.add_comm]

theorem gb_set {w w' : World} {g : Nat} (h : w.grownBy w' (some g)) (i : Nat) (u : Value) : w.grownBy (w'.setCell ⟨g, i, none⟩ u) (some g) :=
  ⟨h.os, h.tape, h.output, by have := h.size; simpa [World.setCell] using this, fun k hk hne => (Below.heap_setCell w' ⟨g, i, none⟩ u k (fun he => hne (by rw [he]))).trans (h.block k hk hne)⟩
theorem Sl.gb {w w' : World} {B sz n g : Nat} {A : Option Addr} {xs : List Value} (h : Sl w B sz A n xs) (hg : w.grownBy w' (some g)) (hB : B ≤ g) (hw : g < w.heap.size) : Sl w' B sz A n xs := by
  refine ⟨h.1, fun hn => ?_⟩
  obtain ⟨b, o, e, hb, hc⟩ := h.2 hn
  exact ⟨b, o, e, hb, fun j u hu => (World.cell?_of_block (a := ⟨b, o + j, none⟩) (hg.block b (by omega) (by intro he; injection he with he; omega))).trans (hc j u hu)⟩
theorem rd_bad {B gr n k : Nat} {A : Option Addr} {s : Rs} {w : World} (h : RdAt w B gr 186 A n k s) (hc : cntP 0 0 s.1 = none) : PCntR B gr s w (.returned (.int .u64 0)) ((w.setCell ⟨gr, 1, none⟩ (.bool true)).setCell ⟨gr, 0, none⟩ (.slice none 0 0)) := by
  have he : cntS s = (0, [], true) := by unfold cntS; rw [hc]
  refine ⟨none, 0, 0, by rw [he]; rfl, ?_, gb_set (gb_set (World.grownBy.refl w _) 1 _) 0 _⟩
  rw [he]
  exact ⟨((h.blk.set_ 1 _).set_ 0 _), Sl.nil, Or.inl ⟨rfl, rfl⟩, Nat.zero_le _, by simp⟩
theorem rd_ok {B gr n k b o j M : Nat} {s : Rs} {w : World} (h : RdAt w B gr 186 (some ⟨b, o, none⟩) n k s) (hB : B ≤ gr) (hj : j < n) (hc : cntP 0 0 s.1 = some (M, s.1.drop (j + 1))) :
    PCntR B gr s w (.returned (.int .u64 M)) (w.setCell ⟨gr, 0, none⟩ (.slice (some ⟨b, o + (j + 1), none⟩) (n - (j + 1)) (k - (j + 1)))) := by
  have he : cntS s = (M, s.1.drop (j + 1), s.2) := by unfold cntS; rw [hc]
  have hg : w.grownBy (w.setCell ⟨gr, 0, none⟩ (.slice (some ⟨b, o + (j + 1), none⟩) (n - (j + 1)) (k - (j + 1)))) (some gr) := gb_set (World.grownBy.refl w _) 0 _
  refine ⟨some ⟨b, o + (j + 1), none⟩, n - (j + 1), k - (j + 1), by rw [he], ?_, hg⟩
  rw [he]
  have hlt := h.blk.lt
  refine ⟨h.blk.set_ 0 _, ?_, ?_, Nat.le_trans (Nat.sub_le _ _) h.km, fun x hx => h.by8 x (List.mem_of_mem_drop hx)⟩
  · refine ⟨by rw [u8s_len, List.length_drop, h.len]; omega, fun hn => ?_⟩
    obtain ⟨b', o', e, hb, hcs⟩ := (h.sl.gb hg hB hlt).2 (by omega)
    injection e with e
    injection e with e1 e2
    subst e1 e2
    refine ⟨b, o + (j + 1), rfl, hb, fun q u hu => ?_⟩
    rw [Nat.add_assoc]
    refine hcs _ u ?_
    have h5 : (u8s s.1)[j + 1 + q]? = (u8s (s.1.drop (j + 1)))[q]? := by simp [u8s]
    rw [h5]
    exact hu
  · have := h.nk
    omega

set_option maxRecDepth 100000 in
set_option maxHeartbeats 4000000 in
theorem rdcount_any (B gr : Nat) (A : Option Addr) (n k : Nat) (s : Rs) (w : World) (h : RdAt w B gr 186 A n k s) (hB : B ≤ gr) :
    Calls Try.prog 118 #[.pointer (some ⟨gr, 0, none⟩)] w (PCntR B gr s w) := by
  have HLen := Lib.hid h.len
  have H := Lib.hid h
  have hnk := h.nk
  have hkm := h.km
  clear h
  go_enter Try.func118, Try.ntmps118
  go_wp2_with fail
  go_loopg [3, 4] n (fun gk v0 i wr => ∃ j m : Nat, j + gk = n ∧ i = .int .i64 j ∧ v0 = .int .u64 m ∧ m < 128 ^ j ∧ j ≤ 10 ∧ w = wr ∧ Hid (cntP 0 0 s.1 = cntP j m (s.1.drop j)))
  case atStart => exact ⟨0, 0, by omega, rfl, rfl, by simp, by omega, rfl, by rw [List.drop_zero]; rfl⟩
  case round =>
    obtain ⟨j, m, hj, rfl, rfl, hm, hj10, rfl, HC⟩ := hrel
    have c0 : w.cell? ⟨gr, 0, none⟩ = some (.slice A n k) := H.out.blk.cell rfl
    by_cases hlt : j < n
    · obtain ⟨x, hx⟩ := at_lt (by rw [HLen.out]; exact hlt : j < s.1.length)
      have hx8 := H.out.by8 x (List.mem_of_getElem? hx)
      obtain ⟨b, o, rfl, hb, hc⟩ := H.out.sl.2 (by omega)
      have cx := hc j _ (u8s_get hx)
      have e1 : (j : Int) < n := by omega
      have e0 : (0 : Int) ≤ j := by omega
      have hd := drop_cons hx
      have HD := Lib.hid hd
      clear hc hd hx
      go_upto_region 6 with fail
      go_cut [39] (fun s39 wc => s39 = .bool (decide (9 < j ∨ (j = 9 ∧ 1 < x) ∨ (0 < j ∧ x = 0))) ∧ w = wc)
      case first =>
        by_cases j9 : 9 < j
        · have _u := True.intro
          have da0 : decide ((9 : Int) < j) = true := by simp; omega
          have db0 : decide (9 < j) = true := by simp; omega
          have dc0 : (9 : Int) < j := by omega
          go_wp2_with fail
          go_meet
          exact ⟨congrArg Value.bool (by first | (simp; done) | (simp; omega)), rfl⟩
        by_cases je9 : j = 9
        · subst je9
          by_cases x1 : 1 < x
          · have _u := True.intro
            have da0 : decide ((1 : Int) < x) = true := by simp; omega
            have db0 : decide (1 < x) = true := by simp; omega
            have dc0 : (1 : Int) < x := by omega
            go_wp2_with fail
            go_meet
            exact ⟨congrArg Value.bool (by first | (simp; done) | (simp; omega)), rfl⟩
          · by_cases x0 : x = 0
            · have _u := True.intro
              subst x0
              go_wp2_with fail
              go_meet
              exact ⟨congrArg Value.bool (by first | (simp; done) | (simp; omega)), rfl⟩
            · have _u := True.intro
              have da0 : decide ((1 : Int) < x) = false := by simp; omega
              have db0 : decide (1 < x) = false := by simp; omega
              have dc0 : ¬ (1 : Int) < x := by omega
              have q1 : ((x : Int) == 0) = false := by simp; omega
              go_wp2_with fail
              go_meet
              exact ⟨congrArg Value.bool (by first | (simp; done) | (simp; omega)), rfl⟩
        · by_cases j0 : 0 < j
          · by_cases x0 : x = 0
            · have _u := True.intro
              have da0 : decide ((9 : Int) < j) = false := by simp; omega
              have db0 : decide (9 < j) = false := by simp; omega
              have dc0 : ¬ (9 : Int) < j := by omega
              have da1 : decide ((0 : Int) < j) = true := by simp; omega
              have db1 : decide (0 < j) = true := by simp; omega
              have dc1 : (0 : Int) < j := by omega
              have q0 : ((j : Int) == 9) = false := by simp; omega
              subst x0
              go_wp2_with fail
              go_meet
              exact ⟨congrArg Value.bool (by first | (simp; done) | (simp; omega)), rfl⟩
            · have _u := True.intro
              have da0 : decide ((9 : Int) < j) = false := by simp; omega
              have db0 : decide (9 < j) = false := by simp; omega
              have dc0 : ¬ (9 : Int) < j := by omega
              have da1 : decide ((0 : Int) < j) = true := by simp; omega
              have db1 : decide (0 < j) = true := by simp; omega
              have dc1 : (0 : Int) < j := by omega
              have q0 : ((j : Int) == 9) = false := by simp; omega
              have q1 : ((x : Int) == 0) = false := by simp; omega
              go_wp2_with fail
              go_meet
              exact ⟨congrArg Value.bool (by first | (simp; done) | (simp; omega)), rfl⟩
          · have _u := True.intro
            have da0 : decide ((9 : Int) < j) = false := by simp; omega
            have db0 : decide (9 < j) = false := by simp; omega
            have dc0 : ¬ (9 : Int) < j := by omega
            have da1 : decide ((0 : Int) < j) = false := by simp; omega
            have db1 : decide (0 < j) = false := by simp; omega
            have dc1 : ¬ (0 : Int) < j := by omega
            have q0 : ((j : Int) == 9) = false := by simp; omega
            go_wp2_with fail
            go_meet
            exact ⟨congrArg Value.bool (by first | (simp; done) | (simp; omega)), rfl⟩
      case rest =>
        obtain ⟨rfl, rfl⟩ := hcut
        by_cases hbad : 9 < j ∨ (j = 9 ∧ 1 < x) ∨ (0 < j ∧ x = 0)
        · have hdf : decide (9 < j ∨ (j = 9 ∧ 1 < x) ∨ (0 < j ∧ x = 0)) = true := decide_eq_true hbad
          rw [hdf]
          have HBad := Lib.hid (rd_bad H.out (by rw [HC.out, HD.out]; exact cntP_bad hbad))
          have c1 : w.cell? ⟨gr, 1, none⟩ = some (.bool s.2) := H.out.blk.cell rfl
          have f0 := H.out.blk.frozen 0
          have f1 := H.out.blk.frozen 1
          clear hdf hbad cx
          go_wp2_with fail
          go_ret
          exact HBad.out
        · have hdf : decide (9 < j ∨ (j = 9 ∧ 1 < x) ∨ (0 < j ∧ x = 0)) = false := decide_eq_false hbad
          rw [hdf]
          have hj9 : j ≤ 9 := by omega
          have hx1 : j = 9 → x ≤ 1 := by omega
          have b2 : IntKind.i64.wrap (7 * (j : Int)) = 7 * (j : Int) := IntWalk.i64_in _ (by omega)
          have b1 : bits .and .u8 (x : Int) 127 = (x : Int) % 128 := by
            have := u8_and_nat x 127 (by omega) (by omega)
            rw [show (127 : Nat) = 2 ^ 7 - 1 from rfl, Nat.and_two_pow_sub_one_eq_mod] at this
            rw [show (127 : Int) = ((2 ^ 7 - 1 : Nat) : Int) from rfl, this]
            omega
          obtain ⟨Y, hY⟩ : ∃ Y, Y = x % 128 * 128 ^ j := ⟨_, rfl⟩
          have hp : (128 : Nat) ^ j = 2 ^ (7 * j) := by rw [Nat.pow_mul]
          have hY64 : m + Y < 18446744073709551616 := by
            have h9 : (128 : Nat) ^ j ≤ 128 ^ 9 := Nat.pow_le_pow_right (by omega) hj9
            rcases Nat.lt_or_ge j 9 with h8 | h8
            · have h7 : (128 : Nat) ^ j ≤ 128 ^ 8 := Nat.pow_le_pow_right (by omega) (by omega)
              have h6 : x % 128 * 128 ^ j ≤ 127 * 128 ^ 8 := Nat.mul_le_mul (by omega) h7
              omega
            · have h6 : x % 128 * 128 ^ j ≤ 1 * 128 ^ 9 := Nat.mul_le_mul (by have := hx1 (by omega); omega) h9
              omega
          have hM2 : m + Y < 128 ^ (j + 1) := by
            rw [Nat.pow_succ, hY]
            have : x % 128 * 128 ^ j ≤ 127 * 128 ^ j := Nat.mul_le_mul (by omega) (Nat.le_refl _)
            omega
          have b3 : IntKind.u64.wrap ((x : Int) % 128 * 2 ^ (7 * j)) = (Y : Int) := by
            have h9 : (x : Int) % 128 * 2 ^ (7 * j) = (Y : Int) := by
              rw [hY, hp]
              simp
            rw [h9, u64_wrap']
            omega
          have b4 : bits .or .u64 (m : Int) (Y : Int) = ((m + Y : Nat) : Int) := by
            have h9 := u64_or_nat m Y (by omega) (by omega)
            have h10 : m ||| Y = m + Y := by rw [hY, hp]; exact or_shift (by rw [← hp]; exact hm)
            rw [h10] at h9
            exact h9
          obtain ⟨M, hM⟩ : ∃ M, M = m + Y := ⟨_, rfl⟩
          rw [← hM] at b4 hM2 hY64
          by_cases hx128 : x < 128
          · have HOk := Lib.hid (rd_ok (M := M) H.out hB hlt (by rw [HC.out, HD.out, cntP_last hbad hx128, hM, hY]))
            have da : decide ((x : Int) < 128) = true := by simp; omega
            have db : decide (x < 128) = true := by simp; omega
            have dc : (x : Int) < 128 := by omega
            have f0 := H.out.blk.frozen 0
            have dk1 : (j : Int) + 1 ≤ n := by omega
            have dk2 : (n : Int) ≤ k := by omega
            have dk3 : j + 1 ≤ n := by omega
            have dk4 : n ≤ k := by omega
            clear hdf hbad cx hY hM hp hM2 HC
            go_wp2_with fail
            go_ret
            exact HOk.out
          · have HC2 := Lib.hid (show cntP 0 0 s.1 = cntP (j + 1) M (s.1.drop (j + 1)) by rw [HC.out, HD.out, cntP_more hbad hx128, hM, hY])
            have da : decide ((x : Int) < 128) = false := by simp; omega
            have db : decide (x < 128) = false := by simp; omega
            have dc : ¬ (x : Int) < 128 := by omega
            have HM2 := Lib.hid hM2
            clear hdf hbad cx hY hM hp hM2 HC hm
            go_wp2_with fail
            go_roundg (gk - 1)
            case measure => omega
            case rel => exact ⟨j + 1, M, by omega, by go_num, rfl, HM2.out, by omega, rfl, HC2.out⟩
    · obtain rfl : j = n := by omega
      have HBad := Lib.hid (rd_bad H.out (by rw [HC.out, List.drop_of_length_le (by rw [HLen.out]; exact Nat.le_refl _)]; rfl))
      have c1 : w.cell? ⟨gr, 1, none⟩ = some (.bool s.2) := H.out.blk.cell rfl
      have f0 := H.out.blk.frozen 0
      have f1 := H.out.blk.frozen 1
      go_wp2_with fail
      go_ret
      exact HBad.out
end Go.Proofs.Ytgbopmgeicokoaa
