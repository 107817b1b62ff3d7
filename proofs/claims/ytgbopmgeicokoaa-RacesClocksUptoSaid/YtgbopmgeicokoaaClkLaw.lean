/-
  RacesClocks: the law's walk.
-/
import Derived.Test.YtgbopmgeicokoaaRBefo
import Derived.Test.YtgbopmgeicokoaaRunCk
import Derived.Deep.RegionHeld3
namespace Go.Proofs.Ytgbopmgeicokoaa
open Go.RowKit

theorem info_acc : (Try.prog.info? 61).map (fun i => (i.zero, i.size, i.bytes)) = some (some (accV ⟨0, 0, 0, 0, 0, 0, 0⟩), 7, 56) := by kernel_rfl
theorem accVals_one {l : List Acc} : ∀ u ∈ accVals l, u.oneCell' = true := by
  intro u hu
  obtain ⟨x, _, hx⟩ := List.mem_flatMap.1 hu
  simp at hx
  rcases hx with rfl | rfl | rfl | rfl | rfl | rfl | rfl <;> rfl

set_option maxRecDepth 100000 in
set_option maxHeartbeats 8000000 in
theorem law_clocks (c : Cfg) (h0 h2 h3 : Value) (A : Option Addr) (n k : Nat) (tr : List Acc) (i j : Int) (w : World) (h : RunAt w w.heap.size A n k tr) (hn8 : n * 128 ≤ 140737488355328) (hwf : ∀ a ∈ tr, a.addr ≤ 9223372036854775807) :
    Calls Try.prog 5 #[cfgV c, .agg #[h0, .slice A n k, h2, h3], .int .i64 i, .int .i64 j] w (BoolR true w) := by
  have hlen := h.len
  have hk1 := h.nk.1
  have hk2 := h.nk.2
  unfold maxLen at hk2
  obtain ⟨i1, hi1, hi1z, hi1s, hi1b⟩ := info_parts info_acc
  obtain ⟨w0, hw0, hb0, hz0, HA, HR, HT⟩ := two_boxes c w h0 h2 h3 A n k tr h
  have HW0 := Lib.hid hw0
  have HLen := Lib.hid hlen
  have HWf := Lib.hid hwf
  have hwl0 : w.heap.size + 1 < w0.heap.size := by omega
  have HZ0 := Lib.hid hz0
  clear hw0 h hlen hwf hz0
  obtain ⟨p0, p1, p2, p3⟩ := HR.out w0 (Below.refl _ _)
  have HTr0 := Lib.hid (HT.out w0 (Below.refl _ _)).trace
  go_enter Try.func5, Try.ntmps5
  go_upto_region 1 with fail
  rw [← HW0.out]
  go_upto_region 2 with (at_builtin; go_must (refine wpList_app0 _ rfl _ _ 47 rfl w0.heap.size 61 i1 (accV ⟨0, 0, 0, 0, 0, 0, 0⟩) 7 56 Try.underlying47 hi1 hi1z hi1s hi1b rfl (by decide) _ rfl (made_e _ _ _ (Nat.le_refl _)) w.heap.size A n k (accVals tr) rfl (HTr0.out.below ((Below.refl w.heap.size w0).alloc (by omega) _)) accVals_one (by simp only [maxLen]; omega) (by omega) (by rw [World.size_alloc]; omega) ?_; intro A2 k2 w2 hown2 hb2 _ hkk1 hkk2))
  have hb3 : Below w0.heap.size w0 (w2.alloc (.cells #[.slice none 0 0, .slice A2 n k2, .slice none 0 0, .slice none 0 0] 50)) := by
    have h1 := ((Below.refl _ w0).alloc (Nat.le_refl _) (.cells #[] 61)).trans (hb2.mono (by rw [World.size_alloc]; omega))
    exact h1.alloc h1.size _
  have hB3 : Blk (w2.alloc (.cells #[.slice none 0 0, .slice A2 n k2, .slice none 0 0, .slice none 0 0] 50)) w2.heap.size 50 [.slice none 0 0, .slice A2 n k2, .slice none 0 0, .slice none 0 0] := Blk.new _ _ _
  have hT3 : RunAt (w2.alloc (.cells #[.slice none 0 0, .slice A2 n k2, .slice none 0 0, .slice none 0 0] 50)) w2.heap.size A2 n k2 tr := ⟨(Sl.of_own hown2).below ((Below.refl _ _).alloc (Nat.le_refl _) _), hkk1, hkk2⟩
  obtain ⟨gx, hgx⟩ : ∃ gx, gx = w2.heap.size := ⟨_, rfl⟩
  rw [← hgx] at hB3 hT3 ⊢
  generalize w2.alloc (.cells #[.slice none 0 0, .slice A2 n k2, .slice none 0 0, .slice none 0 0] 50) = w3 at hb3 hB3 hT3 ⊢
  clear hown2 hb2 p0 p1 p2 p3 hgx
  have hz3 := hb3.size
  have hgl := hB3.lt
  have HA3 : Hid (∀ W, Below w3.heap.size w3 W → CfgAt c w.heap.size W) := fun W hB => HA.out W (hb3.trans (hB.mono hz3))
  have HR3 : Hid (∀ W, Below w3.heap.size w3 W → RunC h0 h2 h3 A n k (w.heap.size + 1) W) := fun W hB => HR.out W (hb3.trans (hB.mono hz3))
  have HX3 : Hid (∀ W, Below w3.heap.size w3 W → RunC (.slice none 0 0) (.slice none 0 0) (.slice none 0 0) A2 n k2 gx W) := fun W hB => by
    have h9 := hB3.below hB hgl
    exact ⟨h9.cell rfl, h9.cell rfl, h9.cell rfl, h9.cell rfl⟩
  have HTx : Hid (∀ W, Below w3.heap.size w3 W → RunAt W W.heap.size A2 n k2 tr) := fun W hB => ⟨(hT3.trace.below (hB.mono (by omega))).up (by have := hB.size; omega), hT3.nk⟩
  have HTo : Hid (∀ W, Below w3.heap.size w3 W → RunAt W W.heap.size A n k tr) := fun W hB => by
    have h9 := HT.out W (hb3.trans (hB.mono hz3))
    exact ⟨h9.trace.up (by have := hB.size; omega), h9.nk⟩
  clear hB3 hT3
  obtain ⟨q0, q1, q2, q3, q4, q5, q6⟩ := HA3.out w3 (Below.refl _ _)
  obtain ⟨x0, x1, x2, x3⟩ := HX3.out w3 (Below.refl _ _)
  go_wp2_with fail
  refine (pclocks_any c _ _ _ A2 n k2 tr _ (HTx.out _ (Below.refl _ _)) hn8 HWf.out).mono ?_
  rintro e w4 ⟨hb4, hh⟩
  clear q0 q1 q2 q3 q4 q5 q6 x0 x1 x2 x3
  have hz4 := hb4.size
  cases he : decide (runErr c tr = 0) with
  | false =>
    have hne : runErr c tr ≠ 0 := by simpa using he
    rcases hh with ⟨hx, _⟩ | ⟨_, rfl⟩
    · exact absurd hx hne
    have HNe := Lib.hid hne
    have b1 : (runErr c tr != 0) = true := by simp [hne]
    have b2 : (runErr c tr != runErr c tr) = false := by simp
    have b3 : (runErr c tr == runErr c tr) = true := by simp
    have hbv : befV c tr i j = (false, runErr c tr) := by unfold befV; rw [if_neg hne]
    have HBV := Lib.hid hbv
    clear he hne hbv
    obtain ⟨q0, q1, q2, q3, q4, q5, q6⟩ := HA3.out w4 hb4
    obtain ⟨p0, p1, p2, p3⟩ := HR3.out w4 hb4
    go_wp2_with fail
    refine (rcheck_any c h0 h2 h3 A n k tr _ (HTo.out _ hb4)).mono ?_
    rintro e w5 ⟨rfl, hb5⟩
    have hb5' := hb4.trans (hb5.mono hz4)
    clear q0 q1 q2 q3 q4 q5 q6 p0 p1 p2 p3
    obtain ⟨q0, q1, q2, q3, q4, q5, q6⟩ := HA3.out w5 hb5'
    obtain ⟨x0, x1, x2, x3⟩ := HX3.out w5 hb5'
    go_wp2_with fail
    refine (before_any c _ _ _ A2 n k2 tr _ (HTx.out _ hb5') hn8 HWf.out i j).mono ?_
    unfold BefR
    rw [HBV.out]
    rintro e w6 ⟨rfl, hb6⟩
    have hb6' := hb5'.trans (hb6.mono hb5'.size)
    clear q0 q1 q2 q3 q4 q5 q6 x0 x1 x2 x3
    go_wp2_with fail
    refine (num27_any _ _).mono ?_
    rintro e w7 ⟨rfl, rfl⟩
    go_wp2_with fail
    refine (num27_any _ _).mono ?_
    rintro e w8 ⟨rfl, rfl⟩
    go_wp2_with fail
    go_ret
    exact ⟨rfl, hb0.trans ((hb3.trans (hb6'.mono hz3)).mono (by omega))⟩
  | true =>
    have he0 : runErr c tr = 0 := by simpa using he
    rcases hh with hh | hh
    case inr => exact absurd he0 hh.1
    obtain ⟨_, A4, k4, B4, rfl, hRw4, hk5, hk6⟩ := hh
    have HE := Lib.hid he0
    have HRw := Lib.hid hRw4
    unfold maxLen at hk6
    clear he he0 hRw4
    obtain ⟨q0, q1, q2, q3, q4, q5, q6⟩ := HA3.out w4 hb4
    obtain ⟨p0, p1, p2, p3⟩ := HR3.out w4 hb4
    go_wp2_with fail
    refine (rcheck_any c h0 h2 h3 A n k tr _ (HTo.out _ hb4)).mono ?_
    rw [HE.out]
    rintro e w5 ⟨rfl, hb5⟩
    have hb5' := hb4.trans (hb5.mono hz4)
    clear q0 q1 q2 q3 q4 q5 q6 p0 p1 p2 p3
    obtain ⟨q0, q1, q2, q3, q4, q5, q6⟩ := HA3.out w5 hb5'
    obtain ⟨x0, x1, x2, x3⟩ := HX3.out w5 hb5'
    go_wp2_with fail
    refine (before_any c _ _ _ A2 n k2 tr _ (HTx.out _ hb5') hn8 HWf.out i j).mono ?_
    have hbv : befV c tr i j = if 0 ≤ i ∧ i < tr.length ∧ 0 ≤ j ∧ j < tr.length then (aheadB c tr i.toNat j.toNat, 0) else (false, 2) := by unfold befV; rw [if_pos HE.out]
    rw [HLen.out] at hbv
    have HBV := Lib.hid hbv
    clear hbv
    rintro e w6 ⟨rfl, hb6⟩
    have hb6' := hb5'.trans (hb6.mono hb5'.size)
    clear q0 q1 q2 q3 q4 q5 q6 x0 x1 x2 x3
    go_wp2_with fail
    refine (num27_any _ _).mono ?_
    rintro e w7 ⟨rfl, rfl⟩
    obtain ⟨q0, q1, q2, q3, q4, q5, q6⟩ := HA3.out _ hb6'
    obtain ⟨p0, p1, p2, p3⟩ := HR3.out _ hb6'
    go_wp2_with fail
    refine (rclocks_any c h0 h2 h3 A n k tr _ (HTo.out _ hb6') hn8 HE.out).mono ?_
    rintro e w8 ⟨A5, k5, B5, rfl, hb8, hRw5, hk7, hk8⟩
    have hb8' := hb6'.trans (hb8.mono hb6'.size)
    have HRx := Lib.hid (HRw.out.keep ((hb5.trans (hb6.mono hb5.size)).trans (hb8.mono (Nat.le_trans hb5.size hb6.size))))
    have HRy := Lib.hid hRw5
    have b9 : ((n : Int) != (n : Int)) = false := by simp
    unfold maxLen at hk8
    clear q0 q1 q2 q3 q4 q5 q6 p0 p1 p2 p3 hRw5
    go_wp2_with fail
    go_loopg [16] n (fun gk i wr => ∃ q : Nat, q + gk = n ∧ i = .int .i64 q ∧ Below w8.heap.size w8 wr)
    case atStart => exact ⟨0, by omega, rfl, Below.refl _ _⟩
    case round =>
      obtain ⟨q, hq, rfl, hbr⟩ := hrel
      have hbr' := hb8'.trans (hbr.mono hb8'.size)
      have hzr := hbr.size
      by_cases hlt : q < n
      · obtain ⟨y, hy⟩ := at_lt (by rw [HLen.out]; exact hlt : q < tr.length)
        obtain ⟨b4, o4, A6, k6, e6, hb4b, c4, hs4, _, _⟩ := HRx.out.at_ rfl hlt
        obtain ⟨b5, o5, A7, k7', e7, hb5b, c5, hs5, _, _⟩ := HRy.out.at_ rfl hlt
        obtain ⟨bx, ox, ex, hbx, ax⟩ := (HTx.out _ hb8').at_ hy
        obtain ⟨bo, oo, eo, hbo, ao⟩ := (HTo.out _ hb8').at_ hy
        obtain ⟨_, px, _, _⟩ := HX3.out _ hb8'
        obtain ⟨_, po, _, _⟩ := HR3.out _ hb8'
        subst e6 e7 ex eo
        have hTm : c.threads.toNat ≤ maxLen := by have := ((okC_iff c).1 (runErr_ok HE.out).1).t2; simp only [maxLen]; omega
        have HCs : Hid (∀ W, Below w8.heap.size w8 W → Calls Try.prog 26 #[.slice A6 c.threads.toNat k6, .slice A7 c.threads.toNat k7'] W (BoolR true W)) := fun W hB =>
          same27_any (clkL c.threads.toNat (outC c tr q)) A6 A7 _ k6 k7' W ((hs4.below hB).up hB.size) ((hs5.below hB).up hB.size) hTm
        have HS : Hid (∀ W, Below w8.heap.size w8 W → Below w8.heap.size w8 W ∧ W.cell? ⟨b4, o4 + q, none⟩ = some (.slice A6 c.threads.toNat k6) ∧ W.cell? ⟨b5, o5 + q, none⟩ = some (.slice A7 c.threads.toNat k7') ∧ W.cell? ⟨gx, 1, none⟩ = some (.slice (some ⟨bx, ox, none⟩) n k2) ∧ W.cell? ⟨w.heap.size + 1, 1, none⟩ = some (.slice (some ⟨bo, oo, none⟩) n k) ∧ AccAt y bx (ox + q * 7) W ∧ AccAt y bo (oo + q * 7) W) := fun W hB => by
          obtain ⟨a0, a1, a2, a3, a4, a5, a6⟩ := ax
          obtain ⟨d0, d1, d2, d3, d4, d5, d6⟩ := ao
          have hz8 := hb8'.size
          exact ⟨hB, (hB.cell hb4b).trans c4, (hB.cell hb5b).trans c5, (hB.cell (by dsimp only; omega)).trans px, (hB.cell (by dsimp only; omega)).trans po,
            ⟨(hB.cell hbx).trans a0, (hB.cell hbx).trans a1, (hB.cell hbx).trans a2, (hB.cell hbx).trans a3, (hB.cell hbx).trans a4, (hB.cell hbx).trans a5, (hB.cell hbx).trans a6⟩,
            ⟨(hB.cell hbo).trans d0, (hB.cell hbo).trans d1, (hB.cell hbo).trans d2, (hB.cell hbo).trans d3, (hB.cell hbo).trans d4, (hB.cell hbo).trans d5, (hB.cell hbo).trans d6⟩⟩
        have f1 : (q : Int) < n := by omega
        have f0 : (0 : Int) ≤ q := by omega
        have HBr := Lib.hid hbr
        have HSr := Lib.hid (HS.out wr hbr)
        clear hs4 hs5 ax ao px po c4 c5 hy hb4b hb5b hbx hbo
        go_upto_region 15 with fail
        go_cut [95] (fun s95 wc => s95 = .bool false ∧ Below w8.heap.size w8 wc)
        case first =>
          go_region_held3 (fun W => Below w8.heap.size w8 W ∧ W.cell? ⟨b4, o4 + q, none⟩ = some (.slice A6 c.threads.toNat k6) ∧ W.cell? ⟨b5, o5 + q, none⟩ = some (.slice A7 c.threads.toNat k7') ∧ W.cell? ⟨gx, 1, none⟩ = some (.slice (some ⟨bx, ox, none⟩) n k2) ∧ W.cell? ⟨w.heap.size + 1, 1, none⟩ = some (.slice (some ⟨bo, oo, none⟩) n k) ∧ AccAt y bx (ox + q * 7) W ∧ AccAt y bo (oo + q * 7) W)
            ((refine HS.out _ ?_; go_split_ands; first | assumption | exact HBr.out.drew | exact Below.trans ‹Below w8.heap.size w8 _› (hb9.mono (‹Below w8.heap.size w8 _›).size)))
            ((go_at_call 26; refine (HCs.out _ (by go_split_ands; assumption)).mono ?_; rintro e W9 ⟨rfl, hb9⟩))
          all_goals (go_wp2_with fail; go_meet; go_split_ands)
          all_goals exact ⟨rfl, by assumption⟩
        case rest =>
          obtain ⟨rfl, hbc⟩ := hcut
          go_wp2_with fail
          go_roundg (gk - 1)
          case measure => omega
          case rel => exact ⟨q + 1, by omega, by go_num, hbc⟩
      · obtain rfl : n = q := by omega
        obtain ⟨q0, q1, q2, q3, q4, q5, q6⟩ := HA3.out _ hbr'
        obtain ⟨p0, p1, p2, p3⟩ := HR3.out _ hbr'
        have hfin := hb0.trans ((hb3.trans (hbr'.mono hz3)).mono (by omega))
        cases d1 : decide (i < 0) with
        | true =>
          have hv : befV c tr i j = (false, 2) := by rw [HBV.out, if_neg (by simp at d1; omega)]
          rw [hv]
          clear hv
          go_wp2_with fail
          refine (num27_any _ _).mono ?_
          rintro e w9 ⟨rfl, rfl⟩
          go_wp2_with fail
          go_ret
          exact ⟨rfl, hfin⟩
        | false =>
          cases d2 : decide ((n : Int) ≤ i) with
          | true =>
            have hv : befV c tr i j = (false, 2) := by rw [HBV.out, if_neg (by simp at d2; omega)]
            rw [hv]
            clear hv
            go_wp2_with fail
            refine (num27_any _ _).mono ?_
            rintro e w9 ⟨rfl, rfl⟩
            go_wp2_with fail
            go_ret
            exact ⟨rfl, hfin⟩
          | false =>
            cases d3 : decide (j < 0) with
            | true =>
              have hv : befV c tr i j = (false, 2) := by rw [HBV.out, if_neg (by simp at d3; omega)]
              rw [hv]
              clear hv
              go_wp2_with fail
              refine (num27_any _ _).mono ?_
              rintro e w9 ⟨rfl, rfl⟩
              go_wp2_with fail
              go_ret
              exact ⟨rfl, hfin⟩
            | false =>
              cases d4 : decide ((n : Int) ≤ j) with
              | true =>
                have hv : befV c tr i j = (false, 2) := by rw [HBV.out, if_neg (by simp at d4; omega)]
                rw [hv]
                clear hv
                go_wp2_with fail
                refine (num27_any _ _).mono ?_
                rintro e w9 ⟨rfl, rfl⟩
                go_wp2_with fail
                go_ret
                exact ⟨rfl, hfin⟩
              | false =>
                have hin : 0 ≤ i ∧ i < (n : Int) ∧ 0 ≤ j ∧ j < (n : Int) := by simp at d1 d2 d3 d4; omega
                obtain ⟨ii, rfl⟩ : ∃ ii : Nat, i = ii := ⟨i.toNat, by omega⟩
                obtain ⟨jj, rfl⟩ : ∃ jj : Nat, j = jj := ⟨j.toNat, by omega⟩
                have hv : befV c tr ii jj = (aheadB c tr ii jj, 0) := by rw [HBV.out, if_pos hin]; rfl
                rw [hv]
                clear hv
                go_wp2_with fail
                refine (num27_any _ _).mono ?_
                rintro e w9 ⟨rfl, rfl⟩
                go_wp2_with fail
                refine (rbefore_any c h0 h2 h3 A n k tr _ (HTo.out _ hbr') hn8 HE.out ii jj (by omega) (by omega)).mono ?_
                rintro e w10 ⟨rfl, hb10⟩
                have b10 : (aheadB c tr ii jj == aheadB c tr ii jj) = true := by simp
                go_wp2_with fail
                go_ret
                exact ⟨rfl, hb0.trans ((hb3.trans ((hbr'.trans (hb10.mono hbr'.size)).mono hz3)).mono (by omega))⟩
end Go.Proofs.Ytgbopmgeicokoaa
