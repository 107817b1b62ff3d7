/-
  LocksQuiet's law.
-/
import Derived.Test.YtjnmlgfkiebkgaaLqi
import Derived.Test.YtjnmlgfkiebkgaaLom
namespace Go.Proofs.Ytjnmlgfkiebkgaa
open Go.RowKit
set_option linter.unusedVariables false
set_option linter.unusedSimpArgs false

/-- what fit and Play hand to a law: the locks' box, the run's box -/
structure FitAt (w wc : World) (T k : Int) (m : Mc) (gr : Nat) (Ac At Aw : Option Addr) (kc kt kw B : Nat) : Prop where
  low : Below w.heap.size w wc
  box : Blk wc w.heap.size 24 [.int .i64 T, .int .i64 k]
  run : Blk wc gr 39 [.slice Ac m.calls.length kc, .slice At m.log.length kt, .slice none 0 0, .slice Aw m.words.length kw]
  o1 : wc.ownsRow B 62 9 (.slice Ac m.calls.length kc) m.calls.length (calVals m.calls)
  o2 : wc.ownsRow B 66 7 (.slice At m.log.length kt) m.log.length (acVals m.log)
  o3 : wc.ownsRow B 34 1 (.slice Aw m.words.length kw) m.words.length (u64s m.words)
theorem range_kd {T k : Int} (h : rangeB T k 1 7 = true) : 1 ≤ k ∧ k ≤ 7 := by
  unfold rangeB at h
  simp at h
  omega
theorem cntQ_no {c : Cal} {l : List Ac} {q u N : Nat} {a : Ac} (h : l[q]? = some a) (hq : quietA c a = false) (hC : u + cntQ c (l.drop q) = N) : u + cntQ c (l.drop (q + 1)) = N := by
  obtain ⟨h1, h2⟩ := List.getElem?_eq_some_iff.1 h
  rw [List.drop_eq_getElem_cons h1, h2] at hC
  unfold cntQ at hC ⊢
  rw [List.countP_cons_of_neg (by rw [hq]; decide)] at hC
  exact hC
theorem cntQ_yes {c : Cal} {l : List Ac} {q u N : Nat} {a : Ac} (h : l[q]? = some a) (hq : quietA c a = true) (hC : u + cntQ c (l.drop q) = N) : u + 1 + cntQ c (l.drop (q + 1)) = N := by
  obtain ⟨h1, h2⟩ := List.getElem?_eq_some_iff.1 h
  rw [List.drop_eq_getElem_cons h1, h2] at hC
  unfold cntQ at hC ⊢
  rw [List.countP_cons_of_pos hq] at hC
  omega
set_option maxRecDepth 100000 in
set_option maxHeartbeats 8000000 in
theorem law_quiet (T0 k0 : Int) (ms0 : List Mo) (A : Option Addr) (n c : Nat) (hl : ms0.length = n) (w : World) (h : Sl w w.heap.size 4 A n (moVals ms0)) (hn : n ≤ c ∧ c ≤ maxLen) (hA : n = 0 ∨ ∃ b o, A = some ⟨b, o, none⟩) (hop : ∀ v ∈ ms0, -9223372036854775808 ≤ v.op ∧ v.op ≤ 9223372036854775807) :
    Calls Try.prog 7 #[.agg #[.int .i64 T0, .int .i64 k0], .slice A n c] w (BoolR true w) := by
  obtain ⟨T, hT⟩ : ∃ T, T = fitT T0 k0 := ⟨_, rfl⟩
  obtain ⟨k, hk⟩ : ∃ k, k = fitK T0 k0 := ⟨_, rfl⟩
  have hrng := fit_range T0 k0
  rw [← hT, ← hk] at hrng
  have hF : Hid (∀ w, Calls Try.prog 23 #[.agg #[.int .i64 T0, .int .i64 k0], .slice A n c] w (fun e w' => e = .returned (.tuple #[.agg #[.int .i64 T, .int .i64 k], .slice A (min n 65536) c]) ∧ Below w.heap.size w w')) := fun w => by
    have h := fit_any T0 k0 A n c hA hn w
    unfold FitR at h
    rw [← hT, ← hk] at h
    exact h
  obtain ⟨N, hN⟩ : ∃ N, N = min n 65536 := ⟨_, rfl⟩
  rw [← hN] at hF
  obtain ⟨ms, hms⟩ : ∃ ms, ms = ms0.take N := ⟨_, rfl⟩
  have hmsl : ms.length = N := by rw [hms, List.length_take]; omega
  have hsl : Hid (∀ W, Below w.heap.size w W → Sl W W.heap.size 4 A N (moVals ms)) := fun W hW => by
    rw [hms]
    exact ((h.tak hl (by omega)).below hW).up hW.size
  have hkr : 1 ≤ k ∧ k ≤ 7 := range_kd hrng
  have hop2 : Hid (∀ v ∈ ms, -9223372036854775808 ≤ v.op ∧ v.op ≤ 9223372036854775807) := fun v hv => hop v (by rw [hms] at hv; exact List.mem_of_mem_take hv)
  have hN2 : N ≤ 65536 := by omega
  have hP : Hid (∀ W, Below w.heap.size w W → Calls Try.prog 24 #[.agg #[.int .i64 T, .int .i64 k], .slice A N c] W (PlayR ((mc0 k T).moves_ ms) W)) := fun W hW => play_fit hrng ms A N c hmsl W (hsl.out W hW) hN2 hop2.out
  clear h hop hA hn hT hk hN hms
  go_enter Try.func7, Try.ntmps7
  go_upto_region 1 with fail
  have hb0 : Below w.heap.size w (w.alloc (.cells #[.int .i64 T0, .int .i64 k0] 24)) := (Below.refl _ _).alloc (Nat.le_refl _) _
  have hr0 : Blk (w.alloc (.cells #[.int .i64 T0, .int .i64 k0] 24)) w.heap.size 24 [.int .i64 T0, .int .i64 k0] := Blk.new _ _ _
  generalize w.alloc (.cells #[.int .i64 T0, .int .i64 k0] 24) = w0 at hb0 hr0 ⊢
  have hrl := hr0.lt
  have d0 : w0.cell? ⟨w.heap.size, 0, none⟩ = some (.int .i64 T0) := hr0.cell rfl
  have d1 : w0.cell? ⟨w.heap.size, 1, none⟩ = some (.int .i64 k0) := hr0.cell rfl
  have HB0 := Lib.hid hb0
  have HR0 := Lib.hid hr0
  clear hb0 hr0
  go_wp2_with fail
  refine (hF.out _).mono ?_
  rintro e w1 ⟨rfl, hb1⟩
  have hr1 := HR0.out.below hb1 hrl
  have hl1 := hr1.lt
  have HB1 := Lib.hid (HB0.out.trans (hb1.mono (by omega)))
  have HR1 := Lib.hid hr1
  have d0 : w1.cell? ⟨w.heap.size, 0, none⟩ = some (.int .i64 T0) := hr1.cell rfl
  have d1 : w1.cell? ⟨w.heap.size, 1, none⟩ = some (.int .i64 k0) := hr1.cell rfl
  have f0 := hr1.frozen 0
  have f1 := hr1.frozen 1
  clear hb1 hr1
  go_upto_region 2 with fail
  have hb2 : Below w.heap.size w ((w1.setCell ⟨w.heap.size, 0, none⟩ (.int .i64 T)).setCell ⟨w.heap.size, 1, none⟩ (.int .i64 k)) := (HB1.out.setCell (p := ⟨w.heap.size, 0, none⟩) (Nat.le_refl _) _).setCell (p := ⟨w.heap.size, 1, none⟩) (Nat.le_refl _) _
  have hr2 : Blk ((w1.setCell ⟨w.heap.size, 0, none⟩ (.int .i64 T)).setCell ⟨w.heap.size, 1, none⟩ (.int .i64 k)) w.heap.size 24 [.int .i64 T, .int .i64 k] := (HR1.out.set_ 0 _).set_ 1 _
  generalize (w1.setCell ⟨w.heap.size, 0, none⟩ (.int .i64 T)).setCell ⟨w.heap.size, 1, none⟩ (.int .i64 k) = w2 at hb2 hr2 ⊢
  have hl2 := hr2.lt
  have d0 : w2.cell? ⟨w.heap.size, 0, none⟩ = some (.int .i64 T) := hr2.cell rfl
  have d1 : w2.cell? ⟨w.heap.size, 1, none⟩ = some (.int .i64 k) := hr2.cell rfl
  have HB2 := Lib.hid hb2
  have HR2 := Lib.hid hr2
  clear hb2 hr2
  go_wp2_with fail
  refine (hP.out w2 HB2.out).mono ?_
  obtain ⟨m, hm⟩ : ∃ m, m = (mc0 k T).moves_ ms := ⟨_, rfl⟩
  rw [← hm]
  have hbn := moves_bnd ms (mc0 k T)
  rw [← hm, hmsl] at hbn
  have hcl : m.calls.length ≤ 65536 := by have h9 : m.calls.length ≤ 0 + N := hbn.2.2.1; omega
  have hll : m.log.length ≤ 65536 := by have h9 : m.log.length ≤ 0 + N := hbn.2.1; omega
  have HM := Lib.hid hm
  clear hm hbn
  rintro e w3 ⟨Ac, kc, At, kt, Aw, kw, rfl, o1, o2, o3, hb3⟩
  have hr3 := HR2.out.below hb3 hl2
  have hl3 := hr3.lt
  have HB3 := Lib.hid (HB2.out.trans (hb3.mono (by omega)))
  have HR3 := Lib.hid hr3
  have HO1 := Lib.hid o1
  have HO2 := Lib.hid o2
  have hz3 := hb3.size
  clear hb3 hr3 o1 o2 o3
  go_upto_region 3 with fail
  have hb4 : Below w3.heap.size w3 (w3.alloc (.cells #[.slice Ac m.calls.length kc, .slice At m.log.length kt, .slice none 0 0, .slice Aw m.words.length kw] 39)) := (Below.refl _ _).alloc (Nat.le_refl _) _
  have hq4 : Blk (w3.alloc (.cells #[.slice Ac m.calls.length kc, .slice At m.log.length kt, .slice none 0 0, .slice Aw m.words.length kw] 39)) w3.heap.size 39 [.slice Ac m.calls.length kc, .slice At m.log.length kt, .slice none 0 0, .slice Aw m.words.length kw] := Blk.new _ _ _
  generalize w3.alloc (.cells #[.slice Ac m.calls.length kc, .slice At m.log.length kt, .slice none 0 0, .slice Aw m.words.length kw] 39) = w4 at hb4 hq4 ⊢
  have hr4 := HR3.out.below hb4 hl3
  have hl4 := hr4.lt
  have hm4 := hq4.lt
  have HB4 := Lib.hid (HB3.out.trans (hb4.mono (by omega)))
  have HR4 := Lib.hid hr4
  have HQ4 := Lib.hid hq4
  have HO14 := Lib.hid (HO1.out.below hb4)
  have HO24 := Lib.hid (HO2.out.below hb4)
  clear hb4 hr4 hq4
  go_wp2_with fail
  refine (awake_any _).mono ?_
  rintro e w5 ⟨rfl, hb5⟩
  have hr5 := HR4.out.below hb5 hl4
  have hq5 := HQ4.out.below hb5 hm4
  have hl5 := hr5.lt
  have hm5 := hq5.lt
  have HB5 := Lib.hid (HB4.out.trans (hb5.mono (by omega)))
  have HR5 := Lib.hid hr5
  have HQ5 := Lib.hid hq5
  have HO15 := Lib.hid (HO14.out.below hb5)
  have HO25 := Lib.hid (HO24.out.below hb5)
  have d1 : w5.cell? ⟨w.heap.size, 1, none⟩ = some (.int .i64 k) := hr5.cell rfl
  have r0 : w5.cell? ⟨w3.heap.size, 0, none⟩ = some (.slice Ac m.calls.length kc) := hq5.cell rfl
  have r1 : w5.cell? ⟨w3.heap.size, 1, none⟩ = some (.slice At m.log.length kt) := hq5.cell rfl
  clear hb5 hr5 hq5 HB0 HB1 HB2 HB3 HB4 HR0 HR1 HR2 HR3 HR4 HQ4 HO1 HO2 HO14 HO24
  by_cases h5 : k = 5
  · have b5 : (k == 5) = true := by simp [h5]
    go_wp2_with fail
    go_ret
    exact ⟨rfl, HB5.out⟩
  · have b5 : (k == 5) = false := by simp [h5]
    go_wp2_with fail
    -- the loops
    go_loopg [36] m.calls.length (fun gk i wr => ∃ (j : Nat), j + gk = m.calls.length ∧ i = .int .i64 j ∧ Hid (Below w5.heap.size w5 wr))
    case atStart => exact ⟨0, by omega, rfl, Below.refl _ _⟩
    case round =>
      obtain ⟨j, hj, rfl, hB⟩ := hrel
      have hzr := hB.out.size
      have hcr := HR5.out.below hB.out hl5
      have hqr := HQ5.out.below hB.out hm5
      have d1 : wr.cell? ⟨w.heap.size, 1, none⟩ = some (.int .i64 k) := hcr.cell rfl
      have r1 : wr.cell? ⟨w3.heap.size, 1, none⟩ = some (.slice At m.log.length kt) := hqr.cell rfl
      have hlc := hcr.lt
      have hlq := hqr.lt
      clear hcr hqr
      by_cases hlt : j < m.calls.length
      · obtain ⟨x, hx⟩ := at_lt hlt
        have e1 : (j : Int) < m.calls.length := by omega
        have e0 : (0 : Int) ≤ j := by omega
        obtain ⟨b, f, hA, hbl, hcell⟩ := ((Sl.of_own HO15.out).below hB.out).2 (by omega)
        have v0 : wr.cell? ⟨b, f + j * 9, none⟩ = some (.int .i64 x.th) := by have := hcell (j * 9 + 0) _ (calVals_get hx 0 (by omega)); simpa using this
        have v1 : wr.cell? ⟨b, f + j * 9 + 1, none⟩ = some (.int .i64 x.op) := by have := hcell (j * 9 + 1) _ (calVals_get hx 1 (by omega)); rw [← Nat.add_assoc] at this; exact this
        have v2 : wr.cell? ⟨b, f + j * 9 + 2, none⟩ = some (.int .i64 x.arg) := by have := hcell (j * 9 + 2) _ (calVals_get hx 2 (by omega)); rw [← Nat.add_assoc] at this; exact this
        have v3 : wr.cell? ⟨b, f + j * 9 + 3, none⟩ = some (.int .i64 x.dat) := by have := hcell (j * 9 + 3) _ (calVals_get hx 3 (by omega)); rw [← Nat.add_assoc] at this; exact this
        have v4 : wr.cell? ⟨b, f + j * 9 + 4, none⟩ = some (.int .i64 x.beg) := by have := hcell (j * 9 + 4) _ (calVals_get hx 4 (by omega)); rw [← Nat.add_assoc] at this; exact this
        have v5 : wr.cell? ⟨b, f + j * 9 + 5, none⟩ = some (.int .i64 x.fin) := by have := hcell (j * 9 + 5) _ (calVals_get hx 5 (by omega)); rw [← Nat.add_assoc] at this; exact this
        have v6 : wr.cell? ⟨b, f + j * 9 + 6, none⟩ = some (.int .i64 x.pt) := by have := hcell (j * 9 + 6) _ (calVals_get hx 6 (by omega)); rw [← Nat.add_assoc] at this; exact this
        have v7 : wr.cell? ⟨b, f + j * 9 + 7, none⟩ = some (.int .i64 x.ak) := by have := hcell (j * 9 + 7) _ (calVals_get hx 7 (by omega)); rw [← Nat.add_assoc] at this; exact this
        have v8 : wr.cell? ⟨b, f + j * 9 + 8, none⟩ = some (.int .i64 x.av) := by have := hcell (j * 9 + 8) _ (calVals_get hx 8 (by omega)); rw [← Nat.add_assoc] at this; exact this
        have HX := Lib.hid hx
        subst hA
        have hbe : b < wr.heap.size := by omega
        clear hcell hx
        by_cases ho : x.op = 120
        · have g1 : (x.op != 120) = false := by simp [ho]
          by_cases hp : x.pt < 0
          · have g2 : decide (x.pt < 0) = true := decide_eq_true hp
            go_wp2_with fail
            go_roundg (gk - 1)
            case measure => omega
            case rel => exact ⟨j + 1, by omega, by go_num, hB.out.alloc hzr _⟩
          · have g2 : decide (x.pt < 0) = false := decide_eq_false hp
            go_upto_region 11 with fail
            have hb6 : Below w5.heap.size w5 (wr.alloc (.cells #[.int .i64 x.th, .int .i64 120, .int .i64 x.arg, .int .i64 x.dat, .int .i64 x.beg, .int .i64 x.fin, .int .i64 x.pt, .int .i64 x.ak, .int .i64 x.av] 62)) := hB.out.alloc hzr _
            have hx6 : Blk (wr.alloc (.cells #[.int .i64 x.th, .int .i64 120, .int .i64 x.arg, .int .i64 x.dat, .int .i64 x.beg, .int .i64 x.fin, .int .i64 x.pt, .int .i64 x.ak, .int .i64 x.av] 62)) wr.heap.size 62 [.int .i64 x.th, .int .i64 120, .int .i64 x.arg, .int .i64 x.dat, .int .i64 x.beg, .int .i64 x.fin, .int .i64 x.pt, .int .i64 x.ak, .int .i64 x.av] := Blk.new _ _ _
            generalize wr.alloc (.cells #[.int .i64 x.th, .int .i64 120, .int .i64 x.arg, .int .i64 x.dat, .int .i64 x.beg, .int .i64 x.fin, .int .i64 x.pt, .int .i64 x.ak, .int .i64 x.av] 62) = w6 at hb6 hx6 ⊢
            have hz6 := hb6.size
            have hx6l := hx6.lt
            have HB6 := Lib.hid hb6
            have HX6 := Lib.hid hx6
            clear hb6 hx6 v0 v1 v2 v3 v4 v5 v6 v7 v8
            have hq6 := HQ5.out.below HB6.out hm5
            have r1 : w6.cell? ⟨w3.heap.size, 1, none⟩ = some (.slice At m.log.length kt) := hq6.cell rfl
            clear hq6
            go_wp2_with fail
            obtain ⟨wo, rfl⟩ : ∃ wo : World, wo = wr := ⟨_, rfl⟩
            obtain ⟨go, rfl⟩ : ∃ go : Nat, go = gk := ⟨_, rfl⟩
            go_loopg [9, 51] m.log.length (fun g2 s9 i wq => ∃ q u : Nat, q + g2 = m.log.length ∧ i = .int .i64 q ∧ s9 = .int .i64 u ∧ u ≤ q ∧ Hid (Below w6.heap.size w6 wq) ∧ Hid (u + cntQ x (m.log.drop q) = cntQ x m.log))
            case atStart => exact ⟨0, 0, by omega, rfl, rfl, Nat.le_refl _, Below.refl _ _, by show _ = _; simp⟩
            case round =>
              obtain ⟨q, u, hq, rfl, rfl, huq, hBq, hC⟩ := hrel
              have hzq := hBq.out.size
              have hb9 : Below w5.heap.size w5 wr := HB6.out.trans (hBq.out.mono (by omega))
              have hxq := HX6.out.below hBq.out hx6l
              have hcq := HR5.out.below hb9 hl5
              have d1 : wr.cell? ⟨w.heap.size, 1, none⟩ = some (.int .i64 k) := hcq.cell rfl
              have k0 : wr.cell? ⟨wo.heap.size, 0, none⟩ = some (.int .i64 x.th) := hxq.cell rfl
              have k5 : wr.cell? ⟨wo.heap.size, 5, none⟩ = some (.int .i64 x.fin) := hxq.cell rfl
              have k6 : wr.cell? ⟨wo.heap.size, 6, none⟩ = some (.int .i64 x.pt) := hxq.cell rfl
              have hxl := hxq.lt
              clear hxq hcq
              by_cases hlt2 : q < m.log.length
              · obtain ⟨a, ha⟩ := at_lt hlt2
                have f1 : (q : Int) < m.log.length := by omega
                have f0 : (0 : Int) ≤ q := by omega
                obtain ⟨b2, o2, hA2, hbl2, hcell2⟩ := ((Sl.of_own HO25.out).below hb9).2 (by omega)
                have u0 : wr.cell? ⟨b2, o2 + q * 7, none⟩ = some (.int .i64 a.mv) := by have := hcell2 (q * 7 + 0) _ (acVals_get ha 0 (by omega)); simpa using this
                have u1 : wr.cell? ⟨b2, o2 + q * 7 + 1, none⟩ = some (.int .i64 a.th) := by have := hcell2 (q * 7 + 1) _ (acVals_get ha 1 (by omega)); rw [← Nat.add_assoc] at this; exact this
                have u2 : wr.cell? ⟨b2, o2 + q * 7 + 2, none⟩ = some (.int .i64 a.kd) := by have := hcell2 (q * 7 + 2) _ (acVals_get ha 2 (by omega)); rw [← Nat.add_assoc] at this; exact this
                have u3 : wr.cell? ⟨b2, o2 + q * 7 + 3, none⟩ = some (.int .i64 a.ad) := by have := hcell2 (q * 7 + 3) _ (acVals_get ha 3 (by omega)); rw [← Nat.add_assoc] at this; exact this
                have u4 : wr.cell? ⟨b2, o2 + q * 7 + 4, none⟩ = some (.int .u64 a.old) := by have := hcell2 (q * 7 + 4) _ (acVals_get ha 4 (by omega)); rw [← Nat.add_assoc] at this; exact this
                have u5 : wr.cell? ⟨b2, o2 + q * 7 + 5, none⟩ = some (.int .u64 a.new) := by have := hcell2 (q * 7 + 5) _ (acVals_get ha 5 (by omega)); rw [← Nat.add_assoc] at this; exact this
                have u6 : wr.cell? ⟨b2, o2 + q * 7 + 6, none⟩ = some (.int .u64 a.saw) := by have := hcell2 (q * 7 + 6) _ (acVals_get ha 6 (by omega)); rw [← Nat.add_assoc] at this; exact this
                have HA := Lib.hid ha
                subst hA2
                have hbe2 : b2 < wr.heap.size := by omega
                clear hcell2 ha
                by_cases hth : a.th = x.th
                · have gth : (a.th == x.th) = true := by simp [hth]
                  by_cases hmv : x.pt < a.mv
                  · have gmv : decide (x.pt < a.mv) = true := decide_eq_true hmv
                    by_cases hf0 : x.fin < 0
                    · have gf0 : decide (x.fin < 0) = true := decide_eq_true hf0
                      by_cases hkd : ¬ a.kd = 1
                      · have gkd : (a.kd != 1) = true := by simp [hkd]
                        go_wp2_with fail
                        go_roundg (gk - 1)
                        case measure => omega
                        case rel => exact ⟨q + 1, u + 1, by omega, by go_num, by go_num, by omega, hBq.out.alloc hzq _, cntQ_yes HA.out (by unfold quietA; simp [gth, gmv, gf0, gkd]) hC.out⟩
                      · have gkd : (a.kd != 1) = false := by simpa using hkd
                        go_wp2_with fail
                        go_roundg (gk - 1)
                        case measure => omega
                        case rel => exact ⟨q + 1, u, by omega, by go_num, rfl, by omega, hBq.out.alloc hzq _, cntQ_no HA.out (by unfold quietA; simp [gth, gmv, gf0, gkd]) hC.out⟩
                    · have gf0 : decide (x.fin < 0) = false := decide_eq_false hf0
                      by_cases hf1 : a.mv ≤ x.fin
                      · have gf1 : decide (a.mv ≤ x.fin) = true := decide_eq_true hf1
                        by_cases hkd : ¬ a.kd = 1
                        · have gkd : (a.kd != 1) = true := by simp [hkd]
                          go_wp2_with fail
                          go_roundg (gk - 1)
                          case measure => omega
                          case rel => exact ⟨q + 1, u + 1, by omega, by go_num, by go_num, by omega, hBq.out.alloc hzq _, cntQ_yes HA.out (by unfold quietA; simp [gth, gmv, gf0, gf1, gkd]) hC.out⟩
                        · have gkd : (a.kd != 1) = false := by simpa using hkd
                          go_wp2_with fail
                          go_roundg (gk - 1)
                          case measure => omega
                          case rel => exact ⟨q + 1, u, by omega, by go_num, rfl, by omega, hBq.out.alloc hzq _, cntQ_no HA.out (by unfold quietA; simp [gth, gmv, gf0, gf1, gkd]) hC.out⟩
                      · have gf1 : decide (a.mv ≤ x.fin) = false := decide_eq_false hf1
                        go_wp2_with fail
                        go_roundg (gk - 1)
                        case measure => omega
                        case rel => exact ⟨q + 1, u, by omega, by go_num, rfl, by omega, hBq.out.alloc hzq _, cntQ_no HA.out (by unfold quietA; simp [gth, gmv, gf0, gf1]) hC.out⟩
                  · have gmv : decide (x.pt < a.mv) = false := decide_eq_false hmv
                    go_wp2_with fail
                    go_roundg (gk - 1)
                    case measure => omega
                    case rel => exact ⟨q + 1, u, by omega, by go_num, rfl, by omega, hBq.out.alloc hzq _, cntQ_no HA.out (by unfold quietA; simp [gth, gmv]) hC.out⟩
                · have gth : (a.th == x.th) = false := by simpa using hth
                  go_wp2_with fail
                  go_roundg (gk - 1)
                  case measure => omega
                  case rel => exact ⟨q + 1, u, by omega, by go_num, rfl, by omega, hBq.out.alloc hzq _, cntQ_no HA.out (by unfold quietA; simp [gth]) hC.out⟩
              · obtain rfl : q = m.log.length := by omega
                have hu : u = cntQ x m.log := by have h9 := hC.out; rw [List.drop_length] at h9; exact h9
                have hq9 := quiet_all (T := T) (k := k) hkr h5 ms (i := j) (c := x) (by rw [← HM.out]; exact HX.out) ho (by omega)
                rw [← HM.out, ← hu] at hq9
                unfold qB at hq9
                clear hu hC
                by_cases h4 : k = 4
                · have b1 : (k == 4) = true := by simp [h4]
                  have b2 : decide ((2 : Int) < u) = false := decide_eq_false (by rw [b1] at hq9; dsimp only [cond_true] at hq9; omega)
                  have b3 : (k != 4) = false := by simp [h4]
                  have b4 : decide (2 < u) = false := decide_eq_false (by rw [b1] at hq9; dsimp only [cond_true] at hq9; omega)
                  clear h4 hq9
                  go_wp2_with fail
                  go_roundg (go - 1)
                  case measure => omega
                  case rel => exact ⟨j + 1, by omega, by go_num, hb9⟩
                · have b1 : (k == 4) = false := by simp [h4]
                  have b2 : decide ((0 : Int) < u) = false := decide_eq_false (by rw [b1] at hq9; dsimp only [cond_false] at hq9; omega)
                  have b3 : (k != 4) = true := by simp [h4]
                  have b4 : decide (0 < u) = false := decide_eq_false (by rw [b1] at hq9; dsimp only [cond_false] at hq9; omega)
                  clear h4 hq9
                  go_wp2_with fail
                  go_roundg (go - 1)
                  case measure => omega
                  case rel => exact ⟨j + 1, by omega, by go_num, hb9⟩
        · have g1 : (x.op != 120) = true := by simp [ho]
          go_wp2_with fail
          go_roundg (gk - 1)
          case measure => omega
          case rel => exact ⟨j + 1, by omega, by go_num, hB.out.alloc hzr _⟩
      · obtain rfl : j = m.calls.length := by omega
        go_wp2_with fail
        go_ret
        exact ⟨rfl, HB5.out.trans (hB.out.mono (by omega))⟩
end Go.Proofs.Ytjnmlgfkiebkgaa
