/-
  RacesOrder: the law's walk.
-/
import Derived.Test.YtgbopmgeicokoaaSees
import Derived.Test.YtgbopmgeicokoaaAwake
import Derived.Test.YtgbopmgeicokoaaRunCk
namespace Go.Proofs.Ytgbopmgeicokoaa
open Go.RowKit

set_option maxRecDepth 100000 in
set_option maxHeartbeats 4000000 in
theorem law_order (c : Cfg) (h0 h2 h3 : Value) (A : Option Addr) (n k : Nat) (tr : List Acc) (i j l : Int) (w : World) (h : RunAt w w.heap.size A n k tr) (hn8 : n * 128 ≤ 140737488355328) (hwf : ∀ a ∈ tr, a.addr ≤ 9223372036854775807) :
    Calls Try.prog 6 #[cfgV c, .agg #[h0, .slice A n k, h2, h3], .int .i64 i, .int .i64 j, .int .i64 l] w (BoolR true w) := by
  have hlen := h.len
  have hk1 := h.nk.1
  have hk2 := h.nk.2
  unfold maxLen at hk2
  obtain ⟨w0, hw0, hb0, hz0, HA, HR, HT⟩ := two_boxes c w h0 h2 h3 A n k tr h
  have HW0 := Lib.hid hw0
  have HWf := Lib.hid hwf
  have HLen := Lib.hid hlen
  clear hw0 h hwf hlen
  have HTo : Hid (∀ W, Below w0.heap.size w0 W → RunAt W W.heap.size A n k tr) := fun W hB => by
    have h9 := HT.out W hB
    exact ⟨h9.trace.up (by have := hB.size; omega), h9.nk⟩
  go_enter Try.func6, Try.ntmps6
  go_upto_region 1 with fail
  rw [← HW0.out]
  go_wp2_with fail
  refine (awake_any _).mono ?_
  rintro e w1 ⟨rfl, hb1⟩
  have hz1 := hb1.size
  obtain ⟨q0, q1, q2, q3, q4, q5, q6⟩ := HA.out w1 hb1
  obtain ⟨p0, p1, p2, p3⟩ := HR.out w1 hb1
  go_wp2_with fail
  refine (rcheck_any c h0 h2 h3 A n k tr _ (HTo.out _ hb1)).mono ?_
  rintro e w2 ⟨rfl, hb2⟩
  have HB2 := Lib.hid (hb1.trans (hb2.mono hz1))
  have HF2 := Lib.hid (hb0.trans (HB2.out.mono (by omega)))
  clear q0 q1 q2 q3 q4 q5 q6 p0 p1 p2 p3 hb1 hb2
  cases he : decide (runErr c tr = 0) with
  | false =>
    have hne : runErr c tr ≠ 0 := by simpa using he
    have b1 : (runErr c tr != 0) = true := by simp [hne]
    clear he hne
    go_wp2_with fail
    go_ret
    exact ⟨rfl, HF2.out⟩
  | true =>
    have he0 : runErr c tr = 0 := by simpa using he
    have b1 : (runErr c tr != 0) = false := by simp [he0]
    have HE := Lib.hid he0
    clear he he0
    cases d1 : decide (i < 0) with
    | true =>
      go_wp2_with fail
      go_ret
      exact ⟨rfl, HF2.out⟩
    | false =>
      cases d2 : decide ((n : Int) ≤ i) with
      | true =>
        go_wp2_with fail
        go_ret
        exact ⟨rfl, HF2.out⟩
      | false =>
        cases d3 : decide (j < 0) with
        | true =>
          go_wp2_with fail
          go_ret
          exact ⟨rfl, HF2.out⟩
        | false =>
          cases d4 : decide ((n : Int) ≤ j) with
          | true =>
            go_wp2_with fail
            go_ret
            exact ⟨rfl, HF2.out⟩
          | false =>
            cases d5 : decide (l < 0) with
            | true =>
              go_wp2_with fail
              go_ret
              exact ⟨rfl, HF2.out⟩
            | false =>
              cases d6 : decide ((n : Int) ≤ l) with
              | true =>
                go_wp2_with fail
                go_ret
                exact ⟨rfl, HF2.out⟩
              | false =>
                obtain ⟨ii, rfl⟩ : ∃ ii : Nat, i = ii := ⟨i.toNat, by simp at d1; omega⟩
                obtain ⟨jj, rfl⟩ : ∃ jj : Nat, j = jj := ⟨j.toNat, by simp at d3; omega⟩
                obtain ⟨ll, rfl⟩ : ∃ ll : Nat, l = ll := ⟨l.toNat, by simp at d5; omega⟩
                have hi : ii < n := by simp at d2; omega
                have hj : jj < n := by simp at d4; omega
                have hl : ll < n := by simp at d6; omega
                have HBV : Hid (∀ a b : Nat, a < n → b < n → befV c tr a b = (aheadB c tr a b, 0)) := fun a b ha hb => by
                  unfold befV
                  rw [if_pos HE.out, if_pos (by rw [HLen.out]; omega)]
                  rfl
                obtain ⟨x, hx⟩ := at_lt (by rw [HLen.out]; exact hi : ii < tr.length)
                obtain ⟨y, hy⟩ := at_lt (by rw [HLen.out]; exact hj : jj < tr.length)
                obtain ⟨z, hz⟩ := at_lt (by rw [HLen.out]; exact hl : ll < tr.length)
                obtain ⟨bij, hbij⟩ : ∃ b, b = aheadB c tr ii jj := ⟨_, rfl⟩
                obtain ⟨bji, hbji⟩ : ∃ b, b = aheadB c tr jj ii := ⟨_, rfl⟩
                obtain ⟨bjl, hbjl⟩ : ∃ b, b = aheadB c tr jj ll := ⟨_, rfl⟩
                obtain ⟨bil, hbil⟩ : ∃ b, b = aheadB c tr ii ll := ⟨_, rfl⟩
                have F1 : Hid (bij = true → ii < jj) := fun hh => ord_lt hx hy (by rw [← hbij]; exact hh)
                have F2 : Hid (bji = true → jj < ii) := fun hh => ord_lt hy hx (by rw [← hbji]; exact hh)
                have F3 : Hid (bij = true → bjl = true → bil = true) := fun h1 h2 => by rw [hbil]; exact ord_trans hx hy hz (by rw [← hbij]; exact h1) (by rw [← hbjl]; exact h2)
                have F4 : Hid (x.thread = y.thread → ii < jj → bij = true) := fun h1 h2 => by rw [hbij]; exact ord_thread hx hy h1 h2
                have F5 : Hid (SeesP c tr ii jj → bij = true) := fun hh => by rw [hbij]; exact hh.ahead
                have HV1 := Lib.hid hbij
                have HV2 := Lib.hid hbji
                have HV3 := Lib.hid hbjl
                have HV4 := Lib.hid hbil
                have HX := Lib.hid hx
                have HY := Lib.hid hy
                clear b1 d1 d2 d3 d4 d5 d6 hx hy hz hbij hbji hbjl hbil
                have HB2o := HB2.out
                obtain ⟨q0, q1, q2, q3, q4, q5, q6⟩ := HA.out w2 HB2.out
                obtain ⟨p0, p1, p2, p3⟩ := HR.out w2 HB2.out
                clear HB2o
                go_upto_region 6 with fail
                go_wp2_with fail
                refine (before_any c h0 h2 h3 A n k tr _ (HTo.out _ HB2.out) hn8 HWf.out ii jj).mono ?_
                unfold BefR
                rw [HBV.out ii jj hi hj, ← HV1.out]
                rintro e w3 ⟨rfl, hb3⟩
                have HB3 := Lib.hid (HB2.out.trans (hb3.mono HB2.out.size))
                clear q0 q1 q2 q3 q4 q5 q6 p0 p1 p2 p3 hb3
                obtain ⟨q0, q1, q2, q3, q4, q5, q6⟩ := HA.out w3 HB3.out
                obtain ⟨p0, p1, p2, p3⟩ := HR.out w3 HB3.out
                go_wp2_with fail
                refine (before_any c h0 h2 h3 A n k tr _ (HTo.out _ HB3.out) hn8 HWf.out jj ii).mono ?_
                unfold BefR
                rw [HBV.out jj ii hj hi, ← HV2.out]
                rintro e w4 ⟨rfl, hb4⟩
                have HB4 := Lib.hid (HB3.out.trans (hb4.mono HB3.out.size))
                clear q0 q1 q2 q3 q4 q5 q6 p0 p1 p2 p3 hb4
                obtain ⟨q0, q1, q2, q3, q4, q5, q6⟩ := HA.out w4 HB4.out
                obtain ⟨p0, p1, p2, p3⟩ := HR.out w4 HB4.out
                go_wp2_with fail
                refine (before_any c h0 h2 h3 A n k tr _ (HTo.out _ HB4.out) hn8 HWf.out jj ll).mono ?_
                unfold BefR
                rw [HBV.out jj ll hj hl, ← HV3.out]
                rintro e w5 ⟨rfl, hb5⟩
                have HB5 := Lib.hid (HB4.out.trans (hb5.mono HB4.out.size))
                clear q0 q1 q2 q3 q4 q5 q6 p0 p1 p2 p3 hb5
                obtain ⟨q0, q1, q2, q3, q4, q5, q6⟩ := HA.out w5 HB5.out
                obtain ⟨p0, p1, p2, p3⟩ := HR.out w5 HB5.out
                go_wp2_with fail
                refine (before_any c h0 h2 h3 A n k tr _ (HTo.out _ HB5.out) hn8 HWf.out ii ll).mono ?_
                unfold BefR
                rw [HBV.out ii ll hi hl, ← HV4.out]
                rintro e w6 ⟨rfl, hb6⟩
                have HB6 := Lib.hid (HB5.out.trans (hb6.mono HB5.out.size))
                clear q0 q1 q2 q3 q4 q5 q6 p0 p1 p2 p3 hb6
                have HF6 := Lib.hid (hb0.trans (HB6.out.mono (by omega)))
                go_upto_region 10 with fail
                go_cut [129] (fun s129 wc => s129 = .bool false ∧ w6 = wc)
                case first =>
                  have hji : bij = true → bji = false := fun hh => by
                    cases hb : bji with
                    | false => rfl
                    | true => have h8 := F1.out hh; have h9 := F2.out hb; omega
                  cases bij with
                  | false =>
                    clear hji
                    go_wp2_with fail
                    refine (num27_any _ _).mono ?_
                    rintro e _ ⟨rfl, rfl⟩
                    go_wp2_with fail
                    refine (num27_any _ _).mono ?_
                    rintro e _ ⟨rfl, rfl⟩
                    go_wp2_with fail
                    refine (num27_any _ _).mono ?_
                    rintro e _ ⟨rfl, rfl⟩
                    go_wp2_with fail
                    refine (num27_any _ _).mono ?_
                    rintro e _ ⟨rfl, rfl⟩
                    go_wp2_with fail
                    go_meet
                    exact ⟨rfl, rfl⟩
                  | true =>
                    have hf := hji rfl
                    subst hf
                    have hlt := F1.out rfl
                    have d7 : decide ((jj : Int) ≤ ii) = false := by simp; omega
                    have d8 : ¬ (jj : Int) ≤ ii := by omega
                    have d9 : decide (jj ≤ ii) = false := by simp; omega
                    have d10 : ¬ jj ≤ ii := by omega
                    clear hji
                    cases bjl with
                    | false =>
                      go_wp2_with fail
                      refine (num27_any _ _).mono ?_
                      rintro e _ ⟨rfl, rfl⟩
                      go_wp2_with fail
                      refine (num27_any _ _).mono ?_
                      rintro e _ ⟨rfl, rfl⟩
                      go_wp2_with fail
                      refine (num27_any _ _).mono ?_
                      rintro e _ ⟨rfl, rfl⟩
                      go_wp2_with fail
                      refine (num27_any _ _).mono ?_
                      rintro e _ ⟨rfl, rfl⟩
                      go_wp2_with fail
                      go_meet
                      exact ⟨rfl, rfl⟩
                    | true =>
                      have hf := F3.out rfl rfl
                      subst hf
                      go_wp2_with fail
                      refine (num27_any _ _).mono ?_
                      rintro e _ ⟨rfl, rfl⟩
                      go_wp2_with fail
                      refine (num27_any _ _).mono ?_
                      rintro e _ ⟨rfl, rfl⟩
                      go_wp2_with fail
                      refine (num27_any _ _).mono ?_
                      rintro e _ ⟨rfl, rfl⟩
                      go_wp2_with fail
                      refine (num27_any _ _).mono ?_
                      rintro e _ ⟨rfl, rfl⟩
                      go_wp2_with fail
                      go_meet
                      exact ⟨rfl, rfl⟩
                case rest =>
                  obtain ⟨rfl, rfl⟩ := hcut
                  obtain ⟨b, o, rfl, hb, x0, x1, x2, x3, x4, x5, x6⟩ := (HT.out w6 HB6.out).at_ HX.out
                  obtain ⟨y0, y1, y2, y3, y4, y5, y6⟩ := (HT.out w6 HB6.out).cells' HY.out
                  obtain ⟨p0, p1, p2, p3⟩ := HR.out w6 HB6.out
                  have f1 : (ii : Int) < n := by omega
                  have f2 : (jj : Int) < n := by omega
                  have f3 : (0 : Int) ≤ ii := by omega
                  have f4 : (0 : Int) ≤ jj := by omega
                  clear x0 x2 x3 x4 x5 x6 y0 y2 y3 y4 y5 y6 p0 p2 p3
                  go_upto_region 12 with fail
                  go_cut [151] (fun s151 wc => s151 = .bool false ∧ Below w6.heap.size w6 wc)
                  case first =>
                    by_cases hlt : ii < jj
                    case neg =>
                      have d7 : decide ((ii : Int) < jj) = false := by simp; omega
                      have d8 : ¬ (ii : Int) < jj := by omega
                      have d9 : decide (ii < jj) = false := by simp; omega
                      go_quiet (fail)
                      go_wp2_with fail
                      go_meet
                      exact ⟨rfl, (Below.refl _ _).drewN _⟩
                    case pos =>
                      have d7 : decide ((ii : Int) < jj) = true := by simp; omega
                      have d8 : (ii : Int) < jj := by omega
                      have d9 : decide (ii < jj) = true := by simp; omega
                      by_cases ht : x.thread = y.thread
                      · have b2 : (x.thread == y.thread) = true := by simp [ht]
                        have hf := F4.out ht hlt
                        subst hf
                        clear ht
                        go_quiet (fail)
                        go_wp2_with fail
                        go_meet
                        exact ⟨rfl, (Below.refl _ _).drewN _⟩
                      · have b2 : (x.thread == y.thread) = false := by simp [ht]
                        clear ht
                        go_quiet (fail)
                        go_wp2_with fail
                        go_meet
                        exact ⟨rfl, (Below.refl _ _).drewN _⟩
                  case rest =>
                    obtain ⟨rfl, hb7⟩ := hcut
                    obtain ⟨w7, rfl⟩ : ∃ w7 : World, w7 = wc := ⟨_, rfl⟩
                    have HB7 := Lib.hid (HB6.out.trans (hb7.mono HB6.out.size))
                    clear x1 y1 p1 hb7
                    obtain ⟨q0, q1, q2, q3, q4, q5, q6⟩ := HA.out w7 HB7.out
                    obtain ⟨p0, p1, p2, p3⟩ := HR.out w7 HB7.out
                    go_wp2_with fail
                    refine (sees_any c h0 h2 h3 (some ⟨b, o, none⟩) n k tr _ (HTo.out _ HB7.out) ((okC_iff c).1 (runErr_ok HE.out).1) ii jj hi hj).mono ?_
                    rintro e w8 ⟨bs, rfl, hs, hb8⟩
                    have HF8 := Lib.hid (hb0.trans ((HB7.out.trans (hb8.mono HB7.out.size)).mono (by omega)))
                    have HS8 := Lib.hid hs
                    clear q0 q1 q2 q3 q4 q5 q6 p0 p1 p2 p3 hb8 hs
                    cases bs with
                    | false =>
                      go_wp2_with fail
                      go_ret
                      exact ⟨rfl, HF8.out⟩
                    | true =>
                      have hf := F5.out (HS8.out rfl)
                      subst hf
                      go_wp2_with fail
                      go_ret
                      exact ⟨rfl, HF8.out⟩
end Go.Proofs.Ytgbopmgeicokoaa
