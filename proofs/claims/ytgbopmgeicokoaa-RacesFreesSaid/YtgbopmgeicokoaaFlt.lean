/-
  reclaimref27.flat: a state with its clocks as a list of numbers.
-/
import Derived.Test.YtgbopmgeicokoaaRls
import Derived.Test.YtgbopmgeicokoaaFl19
import Derived.Test.YtgbopmgeicokoaaRb27
namespace Go.Proofs.Ytgbopmgeicokoaa
open Go.RowKit

def mAt (n : Nat) (x : TS) (j : Nat) : List Int := (List.range j).flatMap fun t => clkL n (x.m t)
def wAt (n : Nat) (x : TS) (j : Nat) : List Int := (List.range j).flatMap fun a => clkL n (x.wd a)
theorem mAt_next (n : Nat) (x : TS) (j : Nat) : mAt n x (j + 1) = mAt n x j ++ clkL n (x.m j) := by unfold mAt; rw [List.range_succ, List.flatMap_append]; simp
theorem wAt_next (n : Nat) (x : TS) (j : Nat) : wAt n x (j + 1) = wAt n x j ++ clkL n (x.wd j) := by unfold wAt; rw [List.range_succ, List.flatMap_append]; simp
theorem mAt_len (n : Nat) (x : TS) : ∀ j, (mAt n x j).length = n * j
  | 0 => by simp [mAt]
  | j + 1 => by rw [mAt_next, List.length_append, mAt_len n x j, clkL_len]; rfl
theorem ints_app (a b : List Int) : ints (a ++ b) = ints a ++ ints b := by simp [ints]
theorem flat_eq (l : Lit) (S : LS) (es : List Ev) : ((((((flatAt S l.tn ++ mAt l.tn (xAt es) l.tn) ++ wAt l.tn (xAt es) l.wn) ++ lastK l.tn l.wn (lastE es 1)) ++ lastK l.tn l.wn (lastE es 2)) ++ lastK l.tn l.wn (lastE es 3)) ++ lastK l.tn l.wn (lastE es 9)) = flatK l.tn l.wn S es := rfl
theorem EvcAt.rsb {W : World} {B n nw : Nat} {S : LS} {x : TS} {es : List Ev} {M : RM} {vA : Option Addr} {vk : Nat} (h : RSB W B n nw S x es M) (hv : M.vE = .slice vA es.length vk) : EvcAt W W.heap.size n es M.cs vA := by
  refine ⟨?_, h.cl, fun j p hp => (h.cr j p hp).2.sl⟩
  have h9 := h.ev
  rw [hv] at h9
  exact Sl.of_own h9

set_option maxRecDepth 100000 in
set_option maxHeartbeats 16000000 in
theorem flat_any (l : Lit) (w : World) (B : Nat) (S : LS) (es : List Ev) (M : RM) (hl : LitAt w w.heap.size l) (hr : RSB w B l.tn l.wn S (xAt es) es M) (hok : okLit l = true) (hen : es.length ≤ 100000) (hes : ∀ e ∈ es, EvOk l e) :
    Calls Try.prog 100 #[litV l, rsV M l.tn l.wn] w (FltR (flatK l.tn l.wn S es) w) := by
  obtain ⟨n1, n2, n3, n4⟩ := okLit_num hok
  obtain ⟨vA, vk, hvE, hvk1, hvk2⟩ := own_form hr.ev
  have HvE := Lib.hid hvE
  unfold rsV
  rw [hvE]
  obtain ⟨w0, hw0⟩ : ∃ w0 : World, w0 = (w.alloc (.cells #[.slice l.wA l.wn l.wk, .slice l.tA l.tn l.tk] 101)).alloc (.cells #[.slice (some ⟨M.h.gw, 0, none⟩) l.wn M.h.kw, .slice (some ⟨M.h.gr, 0, none⟩) l.tn M.h.kr, .slice (some ⟨M.h.gp, 0, none⟩) l.tn M.h.kp, .slice (some ⟨M.h.gb, 0, none⟩) l.tn M.h.kb, .slice (some ⟨M.gm, 0, none⟩) l.tn M.km, .slice (some ⟨M.gd, 0, none⟩) l.wn M.kd, .slice vA es.length vk] 116) := ⟨_, rfl⟩
  have HB0 : Hid (Blk w0 w.heap.size 101 (litL l)) := by rw [hw0]; exact Lib.hid ((Blk.new w 101 (litL l)).alloc _)
  have HZ0 : Hid (Blk w0 (w.heap.size + 1) 116 [.slice (some ⟨M.h.gw, 0, none⟩) l.wn M.h.kw, .slice (some ⟨M.h.gr, 0, none⟩) l.tn M.h.kr, .slice (some ⟨M.h.gp, 0, none⟩) l.tn M.h.kp, .slice (some ⟨M.h.gb, 0, none⟩) l.tn M.h.kb, .slice (some ⟨M.gm, 0, none⟩) l.tn M.km, .slice (some ⟨M.gd, 0, none⟩) l.wn M.kd, .slice vA es.length vk]) := by
    rw [hw0]
    have h9 := Blk.new (w.alloc (.cells #[.slice l.wA l.wn l.wk, .slice l.tA l.tn l.tk] 101)) 116 [.slice (some ⟨M.h.gw, 0, none⟩) l.wn M.h.kw, .slice (some ⟨M.h.gr, 0, none⟩) l.tn M.h.kr, .slice (some ⟨M.h.gp, 0, none⟩) l.tn M.h.kp, .slice (some ⟨M.h.gb, 0, none⟩) l.tn M.h.kb, .slice (some ⟨M.gm, 0, none⟩) l.tn M.km, .slice (some ⟨M.gd, 0, none⟩) l.wn M.kd, .slice vA es.length vk]
    rw [World.size_alloc] at h9
    exact Lib.hid h9
  have HW0 : Hid (Below w.heap.size w w0) := by rw [hw0]; exact Lib.hid (((Below.refl _ _).alloc (Nat.le_refl _) _).alloc (by simp) _)
  have HR0 := Lib.hid (hr.on HW0.out)
  have HL := Lib.hid hl
  have HEs := Lib.hid hes
  have HOk := Lib.hid hok
  have HWe := Lib.hid hw0
  have hz0 : w.heap.size + 1 < w0.heap.size := HZ0.out.lt
  obtain ⟨ii, hii, hiiz, hiis, hiib⟩ := info_parts info_iF
  obtain ⟨N0, hN0⟩ : ∃ N0, N0 = (flatAt S l.tn).length := ⟨_, rfl⟩
  have hN0b : N0 ≤ 30 := by rw [hN0, flatAt_len hr.st.wlen]; omega
  obtain ⟨NK, hNK⟩ : ∃ NK, NK = l.wn * l.tn := ⟨_, rfl⟩
  have hNKb : NK ≤ 24 := by
    rw [hNK]
    exact Nat.le_trans (Nat.mul_le_mul n4 n2) (by omega)
  obtain ⟨NM, hNM⟩ : ∃ NM, NM = l.tn * l.tn := ⟨_, rfl⟩
  have hNMb : NM ≤ 16 := by
    rw [hNM]
    exact Nat.le_trans (Nat.mul_le_mul n2 n2) (by omega)
  have hNMK : l.tn * l.wn = NK := by rw [hNK, Nat.mul_comm]
  have HN0 := Lib.hid hN0
  have HNK := Lib.hid hNK
  have HNM := Lib.hid hNM
  have HNMK := Lib.hid hNMK
  have HRl : Hid (∀ j, j ≤ l.tn → l.tn * j ≤ NM) := Lib.hid fun j hj => by rw [hNM]; exact Nat.mul_le_mul_left _ hj
  have HRw : Hid (∀ j, j ≤ l.wn → l.tn * j ≤ NK) := Lib.hid fun j hj => by rw [← hNMK]; exact Nat.mul_le_mul_left _ hj
  clear hr hl hok hes hw0 hvE hN0 hNK hNM hNMK
  go_enter Try.func100, Try.ntmps100
  go_upto_region 1 with fail
  rw [← HWe.out]
  clear HWe
  have s0 : w0.cell? ⟨w.heap.size + 1, 0, none⟩ = some (.slice (some ⟨M.h.gw, 0, none⟩) l.wn M.h.kw) := HZ0.out.cell rfl
  have s1 : w0.cell? ⟨w.heap.size + 1, 1, none⟩ = some (.slice (some ⟨M.h.gr, 0, none⟩) l.tn M.h.kr) := HZ0.out.cell rfl
  have s2 : w0.cell? ⟨w.heap.size + 1, 2, none⟩ = some (.slice (some ⟨M.h.gp, 0, none⟩) l.tn M.h.kp) := HZ0.out.cell rfl
  have s3 : w0.cell? ⟨w.heap.size + 1, 3, none⟩ = some (.slice (some ⟨M.h.gb, 0, none⟩) l.tn M.h.kb) := HZ0.out.cell rfl
  go_wp2_with (go_at_call 127; go_must (refine (flat19_any M.h l.tn l.wn S w0 HR0.out.st n2 n4).mono ?_; rintro e w1 ⟨A1, k1, rfl, hown, hb1⟩))
  rw [← HN0.out] at hown ⊢
  have HO1 : Hid (w1.ownsRow w0.heap.size 3 1 (.slice A1 N0 k1) N0 (ints (flatAt S l.tn))) := Lib.hid hown
  have HB1 := Lib.hid hb1
  clear hown hb1 s0 s1 s2 s3
  go_wp2_with fail
  go_loopg [5, 6] l.tn (fun gk v i wr => ∃ (j : Nat) (v9 : Value), j + gk = l.tn ∧ i = .int .i64 j ∧ v = v9 ∧ Hid (wr.ownsRow w0.heap.size 3 1 v9 (N0 + l.tn * j) (ints (flatAt S l.tn ++ mAt l.tn (xAt es) j))) ∧ Hid (Below w0.heap.size w0 wr))
  case atStart => exact ⟨0, _, by omega, rfl, rfl, by simp only [mAt, List.range_zero, List.flatMap_nil, List.append_nil, Nat.mul_zero, Nat.add_zero]; exact HO1, HB1⟩
  case round =>
    obtain ⟨j, v, hj, rfl, hv9, HO, HB⟩ := hrel
    subst hv9
    obtain ⟨A5, k5, hv5, hk51, hk52⟩ := own_form HO.out
    subst hv5
    have s4 : wr.cell? ⟨w.heap.size + 1, 4, none⟩ = some (.slice (some ⟨M.gm, 0, none⟩) l.tn M.km) := (HZ0.out.below HB.out HZ0.out.lt).cell rfl
    by_cases hlt : j < l.tn
    · have e1 : (j : Int) < l.tn := by omega
      have e0 : (0 : Int) ≤ j := by omega
      have d1 : decide (j < l.tn) = true := by simpa using hlt
      have hR := HR0.out.on HB.out
      obtain ⟨g, hg9⟩ := at_lt (show j < M.ms.length by rw [hR.ml]; exact hlt)
      have m1 : wr.cell? ⟨M.gm, j, none⟩ = some (.slice (some ⟨g, 0, none⟩) l.tn (M.kc j)) := hR.mi.cell (mhV_get hg9)
      have HSl := Lib.hid (hR.mr j g hg9).2.sl
      have hbd := HRl.out (j + 1) hlt
      rw [Nat.mul_add, Nat.mul_one] at hbd
      clear hR hg9
      go_wp2_with (at_builtin; go_must (refine wpList_app _ rfl _ _ 30 rfl w0.heap.size 3 ii (.int .i64 0) 1 8 Try.underlying30 hii hiiz hiis hiib rfl (by decide) (.slice A5 (N0 + l.tn * j) k5) (N0 + l.tn * j) (ints (flatAt S l.tn ++ mAt l.tn (xAt es) j)) rfl HO.out _ (some ⟨g, 0, none⟩) l.tn (M.kc j) (ints (clkL l.tn ((xAt es).m j))) rfl HSl.out ints_one' (N0 + l.tn * (j + 1)) (by rw [Nat.mul_add, Nat.mul_one]; omega) (ints (flatAt S l.tn ++ mAt l.tn (xAt es) (j + 1))) (by rw [mAt_next, ← List.append_assoc, ints_app (flatAt S l.tn ++ mAt l.tn (xAt es) j)]) _ rfl (by simp only [maxLen]; rw [Nat.mul_add, Nat.mul_one]; omega) (by rw [Nat.mul_add, Nat.mul_one]; omega) HB.out.size ?_; intro A7 k7 w7 hown hg hat hk7 hk8))
      have HO7 := Lib.hid hown
      have HB7 : Hid (Below w0.heap.size w0 w7) := Lib.hid (HB.out.grown hg HB.out.size (fun q hq => (HO.out.lt q hq).1))
      clear hown hg hat
      go_roundg (gk - 1)
      case measure => omega
      case rel => exact ⟨j + 1, _, by omega, by go_num, rfl, HO7, HB7⟩
    · obtain rfl : j = l.tn := by omega
      go_wp2_with fail
      clear s4
      obtain ⟨wo, rfl⟩ : ∃ wo : World, wo = wr := ⟨_, rfl⟩
      rw [← HNM.out] at HO hk51 ⊢
      obtain ⟨N1, hN1⟩ : ∃ N1, N1 = N0 + NM := ⟨_, rfl⟩
      rw [← hN1] at HO hk51 ⊢
      have hN1b : N1 ≤ 46 := by omega
      have HFm : Hid ((flatAt S l.tn ++ mAt l.tn (xAt es) l.tn).length = N1) := Lib.hid (by rw [List.length_append, mAt_len, ← HN0.out, ← HNM.out, hN1])
      clear hN1
      obtain ⟨F1, hF1⟩ : ∃ F1, F1 = flatAt S l.tn ++ mAt l.tn (xAt es) l.tn := ⟨_, rfl⟩
      rw [← hF1] at HO HFm
      have HF1 := Lib.hid hF1
      clear hF1
      go_loopg [5, 7] l.wn (fun gk v i wr => ∃ (j : Nat) (v9 : Value), j + gk = l.wn ∧ i = .int .i64 j ∧ v = v9 ∧ Hid (wr.ownsRow w0.heap.size 3 1 v9 (N1 + l.tn * j) (ints (F1 ++ wAt l.tn (xAt es) j))) ∧ Hid (Below w0.heap.size w0 wr))
      case atStart => exact ⟨0, _, by omega, rfl, rfl, by simp only [wAt, List.range_zero, List.flatMap_nil, List.append_nil, Nat.mul_zero, Nat.add_zero]; exact HO, HB⟩
      case round =>
        obtain ⟨j, v, hj, rfl, hv9, HO2, HB2⟩ := hrel
        subst hv9
        obtain ⟨A6, k6, hv6, hk61, hk62⟩ := own_form HO2.out
        subst hv6
        have s5 : wr.cell? ⟨w.heap.size + 1, 5, none⟩ = some (.slice (some ⟨M.gd, 0, none⟩) l.wn M.kd) := (HZ0.out.below HB2.out HZ0.out.lt).cell rfl
        by_cases hlt : j < l.wn
        · have e1 : (j : Int) < l.wn := by omega
          have e0 : (0 : Int) ≤ j := by omega
          have d1 : decide (j < l.wn) = true := by simpa using hlt
          have hR := HR0.out.on HB2.out
          obtain ⟨⟨g, gk9⟩, hg9⟩ := at_lt (show j < M.ws.length by rw [hR.wl]; exact hlt)
          have m1 : wr.cell? ⟨M.gd, j, none⟩ = some (.slice (some ⟨g, 0, none⟩) l.tn gk9) := hR.wi.cell (by unfold whV; rw [List.getElem?_map, hg9]; rfl)
          have HSl := Lib.hid (hR.wr j _ hg9).2.sl
          have hbd := HRw.out (j + 1) hlt
          rw [Nat.mul_add, Nat.mul_one] at hbd
          clear hR hg9
          go_wp2_with (at_builtin; go_must (refine wpList_app _ rfl _ _ 30 rfl w0.heap.size 3 ii (.int .i64 0) 1 8 Try.underlying30 hii hiiz hiis hiib rfl (by decide) (.slice A6 (N1 + l.tn * j) k6) (N1 + l.tn * j) (ints (F1 ++ wAt l.tn (xAt es) j)) rfl HO2.out _ (some ⟨g, 0, none⟩) l.tn gk9 (ints (clkL l.tn ((xAt es).wd j))) rfl HSl.out ints_one' (N1 + l.tn * (j + 1)) (by rw [Nat.mul_add, Nat.mul_one]; omega) (ints (F1 ++ wAt l.tn (xAt es) (j + 1))) (by rw [wAt_next, ← List.append_assoc, ints_app (F1 ++ wAt l.tn (xAt es) j)]) _ rfl (by simp only [maxLen]; rw [Nat.mul_add, Nat.mul_one]; omega) (by rw [Nat.mul_add, Nat.mul_one]; omega) HB2.out.size ?_; intro A7 k7 w7 hown hg hat hk7 hk8))
          have HO7 := Lib.hid hown
          have HB7 : Hid (Below w0.heap.size w0 w7) := Lib.hid (HB2.out.grown hg HB2.out.size (fun q hq => (HO2.out.lt q hq).1))
          clear hown hg hat
          go_roundg (gk - 1)
          case measure => omega
          case rel => exact ⟨j + 1, _, by omega, by go_num, rfl, HO7, HB7⟩
        · obtain rfl : j = l.wn := by omega
          go_upto_region 10 with fail
          clear s5
          obtain ⟨x0, rfl⟩ : ∃ x0 : World, x0 = wr := ⟨_, rfl⟩
          rw [HNMK.out] at HO2 hk61 ⊢
          obtain ⟨M0, hM0⟩ : ∃ M0, M0 = N1 + NK := ⟨_, rfl⟩
          rw [← hM0] at HO2 hk61 ⊢
          have hM0b : M0 ≤ 70 := by omega
          clear hM0
          obtain ⟨L0, hL0⟩ : ∃ L0, L0 = F1 ++ wAt l.tn (xAt es) l.wn := ⟨_, rfl⟩
          rw [← hL0] at HO2
          have HL0 := Lib.hid hL0
          clear hL0
          have HX0 := HB2
          have HOx0 := HO2
          have hLb := HB0.out.below HX0.out HB0.out.lt
          have hZb := HZ0.out.below HX0.out HZ0.out.lt
          have hW0 : Below w.heap.size w x0 := HW0.out.trans (HX0.out.mono HW0.out.size)
          have q0 : x0.cell? ⟨w.heap.size, 0, none⟩ = some (.slice l.wA l.wn l.wk) := hLb.cell rfl
          have q1 : x0.cell? ⟨w.heap.size, 1, none⟩ = some (.slice l.tA l.tn l.tk) := hLb.cell rfl
          have s0 : x0.cell? ⟨w.heap.size + 1, 0, none⟩ = some (.slice (some ⟨M.h.gw, 0, none⟩) l.wn M.h.kw) := hZb.cell rfl
          have s1 : x0.cell? ⟨w.heap.size + 1, 1, none⟩ = some (.slice (some ⟨M.h.gr, 0, none⟩) l.tn M.h.kr) := hZb.cell rfl
          have s2 : x0.cell? ⟨w.heap.size + 1, 2, none⟩ = some (.slice (some ⟨M.h.gp, 0, none⟩) l.tn M.h.kp) := hZb.cell rfl
          have s3 : x0.cell? ⟨w.heap.size + 1, 3, none⟩ = some (.slice (some ⟨M.h.gb, 0, none⟩) l.tn M.h.kb) := hZb.cell rfl
          have s4 : x0.cell? ⟨w.heap.size + 1, 4, none⟩ = some (.slice (some ⟨M.gm, 0, none⟩) l.tn M.km) := hZb.cell rfl
          have s5 : x0.cell? ⟨w.heap.size + 1, 5, none⟩ = some (.slice (some ⟨M.gd, 0, none⟩) l.wn M.kd) := hZb.cell rfl
          have s6 : x0.cell? ⟨w.heap.size + 1, 6, none⟩ = some (.slice vA es.length vk) := hZb.cell rfl
          have HLk : Hid (∀ V, V = x0 → Calls Try.prog 128 #[litV l, .agg #[.slice (some ⟨M.h.gw, 0, none⟩) l.wn M.h.kw, .slice (some ⟨M.h.gr, 0, none⟩) l.tn M.h.kr, .slice (some ⟨M.h.gp, 0, none⟩) l.tn M.h.kp, .slice (some ⟨M.h.gb, 0, none⟩) l.tn M.h.kb, .slice (some ⟨M.gm, 0, none⟩) l.tn M.km, .slice (some ⟨M.gd, 0, none⟩) l.wn M.kd, .slice vA es.length vk], .int .i64 1] V (LsR (l.wn * l.tn) (lastK l.tn l.wn (lastE es 1)) V)) := Lib.hid fun V hV => by
            rw [hV]
            exact last_any l vA es.length vk _ _ _ _ _ _ es M.cs 1 x0 ((HL.out.keep hW0).up hW0.size) HOk.out (EvcAt.rsb (HR0.out.on HX0.out) HvE.out) rfl hen HEs.out rfl rfl rfl rfl rfl rfl
          rw [← HNK.out] at HLk
          clear hLb hZb hW0
          go_upto_region 11 with (first | (go_at_call 128; go_must (refine (HLk.out _ rfl).mono ?_; rintro e y0 ⟨g0, rfl, hgl, hrw, hby⟩)) | (at_builtin; go_must (refine wpList_app _ rfl _ _ 30 rfl w0.heap.size 3 ii (.int .i64 0) 1 8 Try.underlying30 hii hiiz hiis hiib rfl (by decide) (.slice A6 M0 k6) M0 (ints L0) rfl (HOx0.out.below hby) _ (some ⟨g0, 0, none⟩) NK NK (ints (lastK l.tn l.wn (lastE es 1))) rfl hrw.sl ints_one' (M0 + NK) rfl (ints (L0 ++ lastK l.tn l.wn (lastE es 1))) (by rw [ints_app]) _ rfl (by simp only [maxLen]; omega) (by omega) (Nat.le_trans HX0.out.size hby.size) ?_; intro B1 c1 x1 hown hg hat hk7 hk8)))
          have HX1 : Hid (Below w0.heap.size w0 x1) := Lib.hid ((HX0.out.trans (hby.mono HX0.out.size)).grown hg (Nat.le_trans HX0.out.size hby.size) (fun q hq => (HOx0.out.lt q hq).1))
          obtain ⟨M1, hM1⟩ : ∃ M1, M1 = M0 + NK := ⟨_, rfl⟩
          obtain ⟨L1, hL1⟩ : ∃ L1, L1 = L0 ++ lastK l.tn l.wn (lastE es 1) := ⟨_, rfl⟩
          rw [← hM1, ← hL1] at hown
          rw [← hM1] at hk7 ⊢
          have hM1b : M1 ≤ 94 := by omega
          have HL1 := Lib.hid hL1
          have HOx1 := Lib.hid hown
          clear hown hg hat hby hgl hrw q0 q1 s0 s1 s2 s3 s4 s5 s6 HLk hM1 hL1 HX0 HOx0
          have hLb := HB0.out.below HX1.out HB0.out.lt
          have hZb := HZ0.out.below HX1.out HZ0.out.lt
          have hW1 : Below w.heap.size w x1 := HW0.out.trans (HX1.out.mono HW0.out.size)
          have q0 : x1.cell? ⟨w.heap.size, 0, none⟩ = some (.slice l.wA l.wn l.wk) := hLb.cell rfl
          have q1 : x1.cell? ⟨w.heap.size, 1, none⟩ = some (.slice l.tA l.tn l.tk) := hLb.cell rfl
          have s0 : x1.cell? ⟨w.heap.size + 1, 0, none⟩ = some (.slice (some ⟨M.h.gw, 0, none⟩) l.wn M.h.kw) := hZb.cell rfl
          have s1 : x1.cell? ⟨w.heap.size + 1, 1, none⟩ = some (.slice (some ⟨M.h.gr, 0, none⟩) l.tn M.h.kr) := hZb.cell rfl
          have s2 : x1.cell? ⟨w.heap.size + 1, 2, none⟩ = some (.slice (some ⟨M.h.gp, 0, none⟩) l.tn M.h.kp) := hZb.cell rfl
          have s3 : x1.cell? ⟨w.heap.size + 1, 3, none⟩ = some (.slice (some ⟨M.h.gb, 0, none⟩) l.tn M.h.kb) := hZb.cell rfl
          have s4 : x1.cell? ⟨w.heap.size + 1, 4, none⟩ = some (.slice (some ⟨M.gm, 0, none⟩) l.tn M.km) := hZb.cell rfl
          have s5 : x1.cell? ⟨w.heap.size + 1, 5, none⟩ = some (.slice (some ⟨M.gd, 0, none⟩) l.wn M.kd) := hZb.cell rfl
          have s6 : x1.cell? ⟨w.heap.size + 1, 6, none⟩ = some (.slice vA es.length vk) := hZb.cell rfl
          have HLk : Hid (∀ V, V = x1 → Calls Try.prog 128 #[litV l, .agg #[.slice (some ⟨M.h.gw, 0, none⟩) l.wn M.h.kw, .slice (some ⟨M.h.gr, 0, none⟩) l.tn M.h.kr, .slice (some ⟨M.h.gp, 0, none⟩) l.tn M.h.kp, .slice (some ⟨M.h.gb, 0, none⟩) l.tn M.h.kb, .slice (some ⟨M.gm, 0, none⟩) l.tn M.km, .slice (some ⟨M.gd, 0, none⟩) l.wn M.kd, .slice vA es.length vk], .int .i64 2] V (LsR (l.wn * l.tn) (lastK l.tn l.wn (lastE es 2)) V)) := Lib.hid fun V hV => by
            rw [hV]
            exact last_any l vA es.length vk _ _ _ _ _ _ es M.cs 2 x1 ((HL.out.keep hW1).up hW1.size) HOk.out (EvcAt.rsb (HR0.out.on HX1.out) HvE.out) rfl hen HEs.out rfl rfl rfl rfl rfl rfl
          rw [← HNK.out] at HLk
          clear hLb hZb hW1
          go_upto_region 12 with (first | (go_at_call 128; go_must (refine (HLk.out _ rfl).mono ?_; rintro e y1 ⟨g1, rfl, hgl, hrw, hby⟩)) | (at_builtin; go_must (refine wpList_app _ rfl _ _ 30 rfl w0.heap.size 3 ii (.int .i64 0) 1 8 Try.underlying30 hii hiiz hiis hiib rfl (by decide) (.slice B1 M1 c1) M1 (ints L1) rfl (HOx1.out.below hby) _ (some ⟨g1, 0, none⟩) NK NK (ints (lastK l.tn l.wn (lastE es 2))) rfl hrw.sl ints_one' (M1 + NK) rfl (ints (L1 ++ lastK l.tn l.wn (lastE es 2))) (by rw [ints_app]) _ rfl (by simp only [maxLen]; omega) (by omega) (Nat.le_trans HX1.out.size hby.size) ?_; intro B2 c2 x2 hown hg hat hk7 hk8)))
          have HX2 : Hid (Below w0.heap.size w0 x2) := Lib.hid ((HX1.out.trans (hby.mono HX1.out.size)).grown hg (Nat.le_trans HX1.out.size hby.size) (fun q hq => (HOx1.out.lt q hq).1))
          obtain ⟨M2, hM2⟩ : ∃ M2, M2 = M1 + NK := ⟨_, rfl⟩
          obtain ⟨L2, hL2⟩ : ∃ L2, L2 = L1 ++ lastK l.tn l.wn (lastE es 2) := ⟨_, rfl⟩
          rw [← hM2, ← hL2] at hown
          rw [← hM2] at hk7 ⊢
          have hM2b : M2 ≤ 118 := by omega
          have HL2 := Lib.hid hL2
          have HOx2 := Lib.hid hown
          clear hown hg hat hby hgl hrw q0 q1 s0 s1 s2 s3 s4 s5 s6 HLk hM2 hL2 HX1 HOx1
          have hLb := HB0.out.below HX2.out HB0.out.lt
          have hZb := HZ0.out.below HX2.out HZ0.out.lt
          have hW2 : Below w.heap.size w x2 := HW0.out.trans (HX2.out.mono HW0.out.size)
          have q0 : x2.cell? ⟨w.heap.size, 0, none⟩ = some (.slice l.wA l.wn l.wk) := hLb.cell rfl
          have q1 : x2.cell? ⟨w.heap.size, 1, none⟩ = some (.slice l.tA l.tn l.tk) := hLb.cell rfl
          have s0 : x2.cell? ⟨w.heap.size + 1, 0, none⟩ = some (.slice (some ⟨M.h.gw, 0, none⟩) l.wn M.h.kw) := hZb.cell rfl
          have s1 : x2.cell? ⟨w.heap.size + 1, 1, none⟩ = some (.slice (some ⟨M.h.gr, 0, none⟩) l.tn M.h.kr) := hZb.cell rfl
          have s2 : x2.cell? ⟨w.heap.size + 1, 2, none⟩ = some (.slice (some ⟨M.h.gp, 0, none⟩) l.tn M.h.kp) := hZb.cell rfl
          have s3 : x2.cell? ⟨w.heap.size + 1, 3, none⟩ = some (.slice (some ⟨M.h.gb, 0, none⟩) l.tn M.h.kb) := hZb.cell rfl
          have s4 : x2.cell? ⟨w.heap.size + 1, 4, none⟩ = some (.slice (some ⟨M.gm, 0, none⟩) l.tn M.km) := hZb.cell rfl
          have s5 : x2.cell? ⟨w.heap.size + 1, 5, none⟩ = some (.slice (some ⟨M.gd, 0, none⟩) l.wn M.kd) := hZb.cell rfl
          have s6 : x2.cell? ⟨w.heap.size + 1, 6, none⟩ = some (.slice vA es.length vk) := hZb.cell rfl
          have HLk : Hid (∀ V, V = x2 → Calls Try.prog 128 #[litV l, .agg #[.slice (some ⟨M.h.gw, 0, none⟩) l.wn M.h.kw, .slice (some ⟨M.h.gr, 0, none⟩) l.tn M.h.kr, .slice (some ⟨M.h.gp, 0, none⟩) l.tn M.h.kp, .slice (some ⟨M.h.gb, 0, none⟩) l.tn M.h.kb, .slice (some ⟨M.gm, 0, none⟩) l.tn M.km, .slice (some ⟨M.gd, 0, none⟩) l.wn M.kd, .slice vA es.length vk], .int .i64 3] V (LsR (l.wn * l.tn) (lastK l.tn l.wn (lastE es 3)) V)) := Lib.hid fun V hV => by
            rw [hV]
            exact last_any l vA es.length vk _ _ _ _ _ _ es M.cs 3 x2 ((HL.out.keep hW2).up hW2.size) HOk.out (EvcAt.rsb (HR0.out.on HX2.out) HvE.out) rfl hen HEs.out rfl rfl rfl rfl rfl rfl
          rw [← HNK.out] at HLk
          clear hLb hZb hW2
          go_upto_region 13 with (first | (go_at_call 128; go_must (refine (HLk.out _ rfl).mono ?_; rintro e y2 ⟨g2, rfl, hgl, hrw, hby⟩)) | (at_builtin; go_must (refine wpList_app _ rfl _ _ 30 rfl w0.heap.size 3 ii (.int .i64 0) 1 8 Try.underlying30 hii hiiz hiis hiib rfl (by decide) (.slice B2 M2 c2) M2 (ints L2) rfl (HOx2.out.below hby) _ (some ⟨g2, 0, none⟩) NK NK (ints (lastK l.tn l.wn (lastE es 3))) rfl hrw.sl ints_one' (M2 + NK) rfl (ints (L2 ++ lastK l.tn l.wn (lastE es 3))) (by rw [ints_app]) _ rfl (by simp only [maxLen]; omega) (by omega) (Nat.le_trans HX2.out.size hby.size) ?_; intro B3 c3 x3 hown hg hat hk7 hk8)))
          have HX3 : Hid (Below w0.heap.size w0 x3) := Lib.hid ((HX2.out.trans (hby.mono HX2.out.size)).grown hg (Nat.le_trans HX2.out.size hby.size) (fun q hq => (HOx2.out.lt q hq).1))
          obtain ⟨M3, hM3⟩ : ∃ M3, M3 = M2 + NK := ⟨_, rfl⟩
          obtain ⟨L3, hL3⟩ : ∃ L3, L3 = L2 ++ lastK l.tn l.wn (lastE es 3) := ⟨_, rfl⟩
          rw [← hM3, ← hL3] at hown
          rw [← hM3] at hk7 ⊢
          have hM3b : M3 ≤ 142 := by omega
          have HL3 := Lib.hid hL3
          have HOx3 := Lib.hid hown
          clear hown hg hat hby hgl hrw q0 q1 s0 s1 s2 s3 s4 s5 s6 HLk hM3 hL3 HX2 HOx2
          have hLb := HB0.out.below HX3.out HB0.out.lt
          have hZb := HZ0.out.below HX3.out HZ0.out.lt
          have hW3 : Below w.heap.size w x3 := HW0.out.trans (HX3.out.mono HW0.out.size)
          have q0 : x3.cell? ⟨w.heap.size, 0, none⟩ = some (.slice l.wA l.wn l.wk) := hLb.cell rfl
          have q1 : x3.cell? ⟨w.heap.size, 1, none⟩ = some (.slice l.tA l.tn l.tk) := hLb.cell rfl
          have s0 : x3.cell? ⟨w.heap.size + 1, 0, none⟩ = some (.slice (some ⟨M.h.gw, 0, none⟩) l.wn M.h.kw) := hZb.cell rfl
          have s1 : x3.cell? ⟨w.heap.size + 1, 1, none⟩ = some (.slice (some ⟨M.h.gr, 0, none⟩) l.tn M.h.kr) := hZb.cell rfl
          have s2 : x3.cell? ⟨w.heap.size + 1, 2, none⟩ = some (.slice (some ⟨M.h.gp, 0, none⟩) l.tn M.h.kp) := hZb.cell rfl
          have s3 : x3.cell? ⟨w.heap.size + 1, 3, none⟩ = some (.slice (some ⟨M.h.gb, 0, none⟩) l.tn M.h.kb) := hZb.cell rfl
          have s4 : x3.cell? ⟨w.heap.size + 1, 4, none⟩ = some (.slice (some ⟨M.gm, 0, none⟩) l.tn M.km) := hZb.cell rfl
          have s5 : x3.cell? ⟨w.heap.size + 1, 5, none⟩ = some (.slice (some ⟨M.gd, 0, none⟩) l.wn M.kd) := hZb.cell rfl
          have s6 : x3.cell? ⟨w.heap.size + 1, 6, none⟩ = some (.slice vA es.length vk) := hZb.cell rfl
          have HLk : Hid (∀ V, V = x3 → Calls Try.prog 128 #[litV l, .agg #[.slice (some ⟨M.h.gw, 0, none⟩) l.wn M.h.kw, .slice (some ⟨M.h.gr, 0, none⟩) l.tn M.h.kr, .slice (some ⟨M.h.gp, 0, none⟩) l.tn M.h.kp, .slice (some ⟨M.h.gb, 0, none⟩) l.tn M.h.kb, .slice (some ⟨M.gm, 0, none⟩) l.tn M.km, .slice (some ⟨M.gd, 0, none⟩) l.wn M.kd, .slice vA es.length vk], .int .i64 9] V (LsR (l.wn * l.tn) (lastK l.tn l.wn (lastE es 9)) V)) := Lib.hid fun V hV => by
            rw [hV]
            exact last_any l vA es.length vk _ _ _ _ _ _ es M.cs 9 x3 ((HL.out.keep hW3).up hW3.size) HOk.out (EvcAt.rsb (HR0.out.on HX3.out) HvE.out) rfl hen HEs.out rfl rfl rfl rfl rfl rfl
          rw [← HNK.out] at HLk
          clear hLb hZb hW3
          go_wp2_with (first | (go_at_call 128; go_must (refine (HLk.out _ rfl).mono ?_; rintro e y3 ⟨g3, rfl, hgl, hrw, hby⟩)) | (at_builtin; go_must (refine wpList_app _ rfl _ _ 30 rfl w0.heap.size 3 ii (.int .i64 0) 1 8 Try.underlying30 hii hiiz hiis hiib rfl (by decide) (.slice B3 M3 c3) M3 (ints L3) rfl (HOx3.out.below hby) _ (some ⟨g3, 0, none⟩) NK NK (ints (lastK l.tn l.wn (lastE es 9))) rfl hrw.sl ints_one' (M3 + NK) rfl (ints (L3 ++ lastK l.tn l.wn (lastE es 9))) (by rw [ints_app]) _ rfl (by simp only [maxLen]; omega) (by omega) (Nat.le_trans HX3.out.size hby.size) ?_; intro B4 c4 x4 hown hg hat hk7 hk8)))
          have HX4 : Hid (Below w0.heap.size w0 x4) := Lib.hid ((HX3.out.trans (hby.mono HX3.out.size)).grown hg (Nat.le_trans HX3.out.size hby.size) (fun q hq => (HOx3.out.lt q hq).1))
          obtain ⟨M4, hM4⟩ : ∃ M4, M4 = M3 + NK := ⟨_, rfl⟩
          obtain ⟨L4, hL4⟩ : ∃ L4, L4 = L3 ++ lastK l.tn l.wn (lastE es 9) := ⟨_, rfl⟩
          rw [← hM4, ← hL4] at hown
          rw [← hM4] at hk7 ⊢
          have hM4b : M4 ≤ 166 := by omega
          have HL4 := Lib.hid hL4
          have HOx4 := Lib.hid hown
          clear hown hg hat hby hgl hrw q0 q1 s0 s1 s2 s3 s4 s5 s6 HLk hM4 hL4 HX3 HOx3
          have hlen : (flatK l.tn l.wn S es).length = M4 := by
            have h9 := HOx4.out.1
            rw [ints_len, HL4.out, HL3.out, HL2.out, HL1.out, HL0.out, HF1.out, flat_eq] at h9
            omega
          have hlist : L4 = flatK l.tn l.wn S es := by rw [HL4.out, HL3.out, HL2.out, HL1.out, HL0.out, HF1.out, flat_eq]
          have Hlen := Lib.hid hlen
          have Hlist := Lib.hid hlist
          clear hlen hlist
          go_wp2_with fail
          go_ret
          refine ⟨B4, c4, congrArg (fun N => Ending.returned (Value.slice B4 N c4)) Hlen.out.symm, ?_, HW0.out.trans (HX4.out.mono HW0.out.size)⟩
          rw [Hlen.out, ← Hlist.out]
          exact own_lowF HOx4.out HW0.out.size
end Go.Proofs.Ytgbopmgeicokoaa
