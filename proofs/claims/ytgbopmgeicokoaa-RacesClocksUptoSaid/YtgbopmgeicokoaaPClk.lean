/-
  races.Clocks.
-/
import Derived.Test.YtgbopmgeicokoaaBefo
import Derived.Test.YtgbopmgeicokoaaClkRows
import Derived.Laws.CopyOwn
namespace Go.Proofs.Ytgbopmgeicokoaa
open Go.RowKit Go.Maps

theorem own_full {w : World} {B e g T : Nat} {xs : List Value} (h : w.ownsRow B e 1 (.slice (some ⟨g, 0, none⟩) T T) T xs) : Blk w g e xs := by
  rcases h.2 with ⟨hv, _⟩ | ⟨g', cap, cur, hv, _, hg, _, _, hs, ht⟩
  · cases hv
  · injection hv with hA _ hc
    injection hA with hA
    injection hA with hA
    subst hA
    subst hc
    unfold Blk
    rw [hg, ← ht, List.take_of_length_le (by simp; omega)]
theorem own_of_blk {w : World} {B e g T : Nat} {xs : List Value} (h : Blk w g e xs) (hl : xs.length = T) (hB : B ≤ g) (hT : T ≤ maxLen) : w.ownsRow B e 1 (.slice (some ⟨g, 0, none⟩) T T) T xs :=
  ⟨by omega, Or.inr ⟨g, T, xs.toArray, rfl, hB, h, Nat.le_refl _, hT, by simp [hl], by simp [List.take_of_length_le, hl]⟩⟩
theorem splice_all {L cs : List Value} (h : L.length = cs.length) : splice L 0 cs = cs := by
  unfold splice
  simp [h]

def PClkR (c : Cfg) (tr : List Acc) (n : Nat) (w : World) (e : Ending) (w' : World) : Prop :=
  Below w.heap.size w w' ∧ ((runErr c tr = 0 ∧ ∃ A k B, e = .returned (.tuple #[.slice A n k, .int .i64 0]) ∧ Rows w' B c.threads.toNat (.slice A n k) n (outC c tr) ∧ n ≤ k ∧ k ≤ maxLen) ∨ (runErr c tr ≠ 0 ∧ e = .returned (.tuple #[.slice none 0 0, .int .i64 (runErr c tr)])))

set_option maxRecDepth 100000 in
set_option maxHeartbeats 4000000 in
theorem pclocks_any (c : Cfg) (h0 h2 h3 : Value) (A : Option Addr) (n k : Nat) (tr : List Acc) (w : World) (h : RunAt w w.heap.size A n k tr) (hn8 : n * 128 ≤ 140737488355328) (hwf : ∀ a ∈ tr, a.addr ≤ 9223372036854775807) :
    Calls Try.prog 21 #[cfgV c, .agg #[h0, .slice A n k, h2, h3]] w (PClkR c tr n w) := by
  have hlen := h.len
  obtain ⟨w0, hw0, hb0, hz0, HA, HR, HT⟩ := two_boxes c w h0 h2 h3 A n k tr h
  have HW0 := Lib.hid hw0
  have HWf := Lib.hid hwf
  have HLen := Lib.hid hlen
  clear hw0 h hwf hlen
  obtain ⟨i1, hi1, hi1z, hi1s, hi1b⟩ := info_parts info_int'
  obtain ⟨i2, hi2, hi2z, hi2s, hi2b⟩ := info_parts info_ints'
  obtain ⟨q0, q1, q2, q3, q4, q5, q6⟩ := HA.out w0 (Below.refl _ _)
  obtain ⟨p0, p1, p2, p3⟩ := HR.out w0 (Below.refl _ _)
  have hR0 := HT.out w0 (Below.refl _ _)
  have HR0 := Lib.hid (⟨hR0.trace.up (by omega), hR0.nk⟩ : RunAt w0 w0.heap.size A n k tr)
  clear hR0
  go_enter Try.func21, Try.ntmps21
  go_upto_region 1 with fail
  rw [← HW0.out]
  go_wp2_with fail
  refine (clocks_any c h0 h2 h3 A n k tr _ HR0.out hn8 HWf.out).mono ?_
  rintro e w1 ⟨hb1, hh⟩
  have hz1 := hb1.size
  clear q0 q1 q2 q3 q4 q5 q6 p0 p1 p2 p3
  rcases hh with ⟨he0, A2, k2, rfl, hA2, hk3, hk4⟩ | ⟨hne, rfl⟩
  · have HE := Lib.hid he0
    have HA2 := Lib.hid hA2
    have hcT := ((okC_iff c).1 (runErr_ok he0).1).t1
    have hcT2 := ((okC_iff c).1 (runErr_ok he0).1).t2
    obtain ⟨T, hT⟩ : ∃ T : Nat, c.threads = T := ⟨c.threads.toNat, by omega⟩
    have hTn : c.threads.toNat = T := by omega
    have HTn := Lib.hid hTn
    have HCT := Lib.hid hT
    unfold maxLen at hk4
    clear he0 hA2 hTn
    go_wp2_with fail
    go_loopg [8, 23] n (fun gk v0 i wr => ∃ (j : Nat) (v : Value), j + gk = n ∧ i = .int .i64 j ∧ v = v0 ∧ Below w1.heap.size w1 wr ∧ Hid (Rows wr w1.heap.size T v j (outC c tr)))
    case atStart => exact ⟨0, .slice none 0 0, by omega, rfl, rfl, Below.refl _ _, Rows.nil⟩
    case round =>
      obtain ⟨j, v, hj, rfl, rfl, hbr, HRw⟩ := hrel
      have hzr := hbr.size
      by_cases hlt : j < n
      · obtain ⟨b2, o2, rfl, hbb2, hc2⟩ := HA2.out.2 (by omega)
        obtain ⟨M, hM⟩ : ∃ M, M = outC c tr j := ⟨_, rfl⟩
        have hm : ∀ t, t < 16 → wr.cell? ⟨b2, o2 + j * 16 + t, none⟩ = some (.int .i64 (M t)) := fun t ht => by
          rw [hM, Nat.add_assoc]
          exact (hbr.cell hbb2).trans (hc2 _ _ (outVals_get c tr n j t hlt ht))
        have m0 : wr.cell? ⟨b2, o2 + j * 16, none⟩ = some (.int .i64 (M 0)) := hm 0 (by omega)
        have m1 : wr.cell? ⟨b2, o2 + j * 16 + 1, none⟩ = some (.int .i64 (M 1)) := hm 1 (by omega)
        have m2 : wr.cell? ⟨b2, o2 + j * 16 + 2, none⟩ = some (.int .i64 (M 2)) := hm 2 (by omega)
        have m3 : wr.cell? ⟨b2, o2 + j * 16 + 3, none⟩ = some (.int .i64 (M 3)) := hm 3 (by omega)
        have m4 : wr.cell? ⟨b2, o2 + j * 16 + 4, none⟩ = some (.int .i64 (M 4)) := hm 4 (by omega)
        have m5 : wr.cell? ⟨b2, o2 + j * 16 + 5, none⟩ = some (.int .i64 (M 5)) := hm 5 (by omega)
        have m6 : wr.cell? ⟨b2, o2 + j * 16 + 6, none⟩ = some (.int .i64 (M 6)) := hm 6 (by omega)
        have m7 : wr.cell? ⟨b2, o2 + j * 16 + 7, none⟩ = some (.int .i64 (M 7)) := hm 7 (by omega)
        have m8 : wr.cell? ⟨b2, o2 + j * 16 + 8, none⟩ = some (.int .i64 (M 8)) := hm 8 (by omega)
        have m9 : wr.cell? ⟨b2, o2 + j * 16 + 9, none⟩ = some (.int .i64 (M 9)) := hm 9 (by omega)
        have m10 : wr.cell? ⟨b2, o2 + j * 16 + 10, none⟩ = some (.int .i64 (M 10)) := hm 10 (by omega)
        have m11 : wr.cell? ⟨b2, o2 + j * 16 + 11, none⟩ = some (.int .i64 (M 11)) := hm 11 (by omega)
        have m12 : wr.cell? ⟨b2, o2 + j * 16 + 12, none⟩ = some (.int .i64 (M 12)) := hm 12 (by omega)
        have m13 : wr.cell? ⟨b2, o2 + j * 16 + 13, none⟩ = some (.int .i64 (M 13)) := hm 13 (by omega)
        have m14 : wr.cell? ⟨b2, o2 + j * 16 + 14, none⟩ = some (.int .i64 (M 14)) := hm 14 (by omega)
        have m15 : wr.cell? ⟨b2, o2 + j * 16 + 15, none⟩ = some (.int .i64 (M 15)) := hm 15 (by omega)
        obtain ⟨q0, q1, q2, q3, q4, q5, q6⟩ := HA.out wr (hb1.trans (hbr.mono hz1))
        have hwl : w.heap.size < wr.heap.size := by omega
        have HM := Lib.hid hM
        have e1 : (j : Int) < n := by omega
        have e0 : (0 : Int) ≤ j := by omega
        clear hM hm hc2
        go_upto_region 9 with (at_make; go_must (refine wpList_make_full _ rfl _ _ 30 rfl w1.heap.size 3 i1 (.int .i64 0) 1 Try.underlying30 hi1 hi1z hi1s .i64 .i64 _ _ T rfl rfl (by omega) (by omega) (by rw [hi1b]; omega) (by simp only [maxLen]; omega) (by rw [World.size_alloc]; omega) ?_; intro w3 hown3 hg3))
        have hzx : (wr.alloc (.cells #[.int .i64 (M 0), .int .i64 (M 1), .int .i64 (M 2), .int .i64 (M 3), .int .i64 (M 4), .int .i64 (M 5), .int .i64 (M 6), .int .i64 (M 7), .int .i64 (M 8), .int .i64 (M 9), .int .i64 (M 10), .int .i64 (M 11), .int .i64 (M 12), .int .i64 (M 13), .int .i64 (M 14), .int .i64 (M 15)] 149)).heap.size = wr.heap.size + 1 := World.size_alloc _ _
        have hB3 : Blk w3 wr.heap.size 149 (ints (clkL 16 M)) := (Blk.new wr 149 (ints (clkL 16 M))).grown hg3 (by simp)
        have hb3 : Below wr.heap.size wr w3 := ((Below.refl _ _).alloc (Nat.le_refl _) _).grown hg3 (by rw [hzx]; omega) (fun q hq => by cases hq)
        have hF3 := own_full hown3
        rw [hzx] at hF3
        have hz3 : wr.heap.size + 1 < w3.heap.size := hF3.lt
        obtain ⟨L3, hL3⟩ : ∃ L3, L3 = (madeCells (Value.int .i64 0).cells (T * 1)).toList := ⟨_, rfl⟩
        rw [← hL3] at hF3
        have hLl : L3.length = T := by rw [hL3]; simp [madeCells]
        obtain ⟨cs, hcs⟩ : ∃ cs, cs = ints (clkL T M) := ⟨_, rfl⟩
        have hcl : cs.length = T := by rw [hcs, ints_len, clkL_len]
        have hcsrc : ∀ q u, cs[q]? = some u → w3.cell? ((⟨wr.heap.size, 0, none⟩ : Addr).add q) = some u := by
          intro q u hq
          have hqT : q < T := by have := (List.getElem?_eq_some_iff.1 hq).1; omega
          rw [Addr.add_mid, Nat.zero_add]
          rw [hcs, clkV_get hqT] at hq
          rw [← hq]
          exact (hB3.cell (clkV_get (by omega))).trans rfl
        have hc1 : ∀ u ∈ cs, u.oneCell' = true := by rw [hcs]; exact ints_one'
        have HF3 := Lib.hid hF3
        have HCS := Lib.hid hcs
        have HL3 := Lib.hid hL3
        clear m0 m1 m2 m3 m4 m5 m6 m7 m8 m9 m10 m11 m12 m13 m14 m15 hcs hL3 hown3 hg3 hF3 hB3
        go_upto_region 10 with (refine wpList_copy_splice rfl _ _ 30 30 rfl 3 Try.underlying30 size_int _ _ _ _ _ _ rfl rfl (wr.heap.size + 1) 0 L3 3 HF3.out cs ?_ ?_ ?_ hc1 (wr.heap.size + 1) w3 (Below.refl _ _) (Nat.le_refl _) ?_)
        case refine_1 => show cs.length = min 16 T; omega
        case refine_2 =>
          intro _ q u hq
          have := hcsrc q u hq
          rwa [Addr.add_mid, Nat.zero_add] at this
        case refine_3 => omega
        intro w4 hX hb4
        have hX4 : Blk w4 (wr.heap.size + 1) 3 (ints (clkL T (outC c tr j))) := by
          have h9 : Blk w4 (wr.heap.size + 1) 3 (splice L3 0 cs) := hX
          rw [splice_all (by omega), HCS.out, HM.out] at h9
          exact h9
        have HX4 := Lib.hid (own_of_blk hX4 (by rw [ints_len, clkL_len]) (by omega : w1.heap.size ≤ wr.heap.size + 1) (by simp only [maxLen]; omega))
        have hb5 := hb3.trans (hb4.mono (by omega))
        have HR4 := Lib.hid (HRw.out.keep hb5)
        have hz4 := hb4.size
        obtain ⟨hs, hs1, hs2, hs3⟩ := HR4.out
        have HS1 := Lib.hid hs1
        have HS2 := Lib.hid hs2
        have HS3 := Lib.hid hs3
        clear hX hX4 hs1 hs2 hs3 hcsrc hc1
        go_wp2_with (at_builtin; go_must (refine wpList_app _ rfl _ _ 51 rfl w1.heap.size 30 i2 (.slice none 0 0) 1 24 Try.underlying51 hi2 hi2z hi2s hi2b rfl (by decide) v j _ rfl (HS1.out.alloc _) (w4.heap.size + 1) (some ⟨w4.heap.size, 0, none⟩) 1 1 [.slice (some ⟨wr.heap.size + 1, 0, none⟩) T T] rfl (((Blk.new w4 30 _).sl rfl).up (by simp)) hd_one' (j + 1) rfl _ rfl _ rfl (by simp only [maxLen]; omega) (by omega) (by rw [World.size_alloc]; omega) ?_; intro A7 k7 w7 hown7 hg7 hat7 hk7 hk8))
        go_roundg (gk - 1)
        case measure => omega
        case rel =>
          refine ⟨j + 1, .slice A7 (j + 1) k7, by omega, by go_num, rfl, ?_, ?_⟩
          · exact ((hbr.trans (hb5.mono (by omega))).alloc (by omega) _).grown hg7 (by rw [World.size_alloc]; omega) (fun q hq => (HS1.out.lt q hq).1)
          · exact Rows.next (HS1.out.alloc _) HS2.out (fun i x hx => ⟨(HS3.out i x hx).1, (HS3.out i x hx).2.alloc _⟩) (HX4.out.alloc _) hg7 hown7
      · obtain rfl : j = n := by omega
        obtain ⟨xs, hrow⟩ := HRw.out.row
        obtain ⟨A5, k5, rfl, h5, h6⟩ := own_form hrow
        go_wp2_with fail
        go_ret2
        exact ⟨hb0.trans ((hb1.trans (hbr.mono (by omega))).mono (by omega)), Or.inl ⟨HE.out, A5, k5, w1.heap.size, rfl, by rw [HTn.out]; exact HRw.out, h5, h6⟩⟩
  · have HNe := Lib.hid hne
    have b1 : (runErr c tr != 0) = true := by simp [hne]
    clear hne
    go_wp2_with fail
    go_ret2
    exact ⟨hb0.trans (hb1.mono (by omega)), Or.inr ⟨HNe.out, rfl⟩⟩
end Go.Proofs.Ytgbopmgeicokoaa
