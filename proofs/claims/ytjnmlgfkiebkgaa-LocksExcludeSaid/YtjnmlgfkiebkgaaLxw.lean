/-
  LocksExclude's law.
-/
import Derived.Test.YtjnmlgfkiebkgaaLxn
import Derived.Test.YtjnmlgfkiebkgaaLom
namespace Go.Proofs.Ytjnmlgfkiebkgaa
open Go.RowKit
set_option linter.unusedVariables false
set_option linter.unusedSimpArgs false

theorem range_kd {T k : Int} (h : rangeB T k 1 7 = true) : 1 ≤ k ∧ k ≤ 7 := by
  unfold rangeB at h
  simp at h
  omega
def iis (l : List Int) : List Value := l.map (.int .i64)
theorem info_iis : (Try.prog.info? 3).map (fun i => (i.zero, i.size, i.bytes)) = some (some (.int .i64 0), 1, 8) := by kernel_rfl
theorem exl_le {T mv : Int} {l : List Cal} {i i' : List Int} {u u' : Int} (h : ExL T mv l i u i' u') : u ≤ u' := by
  induction h with
  | nil => exact Int.le_refl _
  | cons h1 h2 ih =>
    obtain ⟨_, h⟩ := h1
    omega
theorem exl_len {T mv : Int} {l : List Cal} {i i' : List Int} {u u' : Int} (h : ExL T mv l i u i' u') : i'.length = i.length := by
  induction h with
  | nil => rfl
  | cons h1 h2 ih =>
    rw [ih]
    obtain ⟨_, h⟩ := h1
    rcases h with ⟨_, _, _, h | h⟩ | ⟨_, _, _, h⟩ | ⟨_, _, h | h | h | h⟩
    · rw [h.2, List.length_set]
    · rw [h.2]
    · rw [h]
    · rw [h.2.2, List.length_set]
    · rw [h.2.2, List.length_set]
    · rw [h.2.2.2.2]
    · rw [h.2.2.2.2]
theorem exl_cut {T mv : Int} {l : List Cal} {q : Nat} {x : Cal} {i i' : List Int} {u u' : Int} (hx : l[q]? = some x) (h : ExL T mv (l.drop q) i u i' u') : ∃ i1 u1, Ex1 T mv x i u i1 u1 ∧ ExL T mv (l.drop (q + 1)) i1 u1 i' u' := by
  obtain ⟨h1, h2⟩ := List.getElem?_eq_some_iff.1 hx
  rw [List.drop_eq_getElem_cons h1, h2] at h
  cases h with
  | cons h1 h2 => exact ⟨_, _, h1, h2⟩
theorem exl_end {T mv : Int} {l : List Cal} {i i' : List Int} {u u' : Int} (h : ExL T mv (l.drop l.length) i u i' u') : i = i' ∧ u = u' := by
  rw [List.drop_length] at h
  cases h with
  | nil => exact ⟨rfl, rfl⟩
theorem cnt_cut {f : Int → Bool} {l : List Int} {q a N : Nat} {z : Int} (h : l[q]? = some z) (hC : a + (l.drop q).countP f = N) : (f z = true → a + 1 + (l.drop (q + 1)).countP f = N) ∧ (f z = false → a + (l.drop (q + 1)).countP f = N) := by
  obtain ⟨h1, h2⟩ := List.getElem?_eq_some_iff.1 h
  rw [List.drop_eq_getElem_cons h1, h2] at hC
  refine ⟨fun e => ?_, fun e => ?_⟩
  · rw [List.countP_cons_of_pos e] at hC
    omega
  · rw [List.countP_cons_of_neg (by rw [e]; decide)] at hC
    exact hC
theorem cnt_end {f : Int → Bool} {l : List Int} {a N : Nat} (hC : a + (l.drop l.length).countP f = N) : a = N := by
  rw [List.drop_length] at hC
  exact hC
set_option maxRecDepth 100000 in
set_option maxHeartbeats 8000000 in
theorem law_exclude (T0 k0 : Int) (ms0 : List Mo) (A : Option Addr) (n c : Nat) (hl : ms0.length = n) (w : World) (h : Sl w w.heap.size 4 A n (moVals ms0)) (hn : n ≤ c ∧ c ≤ maxLen) (hA : n = 0 ∨ ∃ b o, A = some ⟨b, o, none⟩) (hop : ∀ v ∈ ms0, -9223372036854775808 ≤ v.op ∧ v.op ≤ 9223372036854775807) :
    Calls Try.prog 5 #[.agg #[.int .i64 T0, .int .i64 k0], .slice A n c] w (BoolR true w) := by
  obtain ⟨T, hT⟩ : ∃ T, T = fitT T0 k0 := ⟨_, rfl⟩
  obtain ⟨k, hk⟩ : ∃ k, k = fitK T0 k0 := ⟨_, rfl⟩
  have hrng := fit_range T0 k0
  rw [← hT, ← hk] at hrng
  have hF : Hid (∀ w, Calls Try.prog 23 #[.agg #[.int .i64 T0, .int .i64 k0], .slice A n c] w (fun e w' => e = .returned (.tuple #[.agg #[.int .i64 T, .int .i64 k], .slice A (min n 65536) c]) ∧ Below w.heap.size w w')) := fun w => by
    have h := fit_any T0 k0 A n c hA hn w
    unfold FitR at h
    rw [← hT, ← hk] at h
    exact h
  obtain ⟨N, hN⟩ : ∃ N, N = min n 65536 := ⟨_, rfl⟩
  rw [← hN] at hF
  obtain ⟨ms, hms⟩ : ∃ ms, ms = ms0.take N := ⟨_, rfl⟩
  have hmsl : ms.length = N := by rw [hms, List.length_take]; omega
  have hsl : Hid (∀ W, Below w.heap.size w W → Sl W W.heap.size 4 A N (moVals ms)) := fun W hW => by
    rw [hms]
    exact ((h.tak hl (by omega)).below hW).up hW.size
  have hkr : 1 ≤ k ∧ k ≤ 7 := range_kd hrng
  have hop2 : Hid (∀ v ∈ ms, -9223372036854775808 ≤ v.op ∧ v.op ≤ 9223372036854775807) := fun v hv => hop v (by rw [hms] at hv; exact List.mem_of_mem_take hv)
  have hN2 : N ≤ 65536 := by omega
  have hP : Hid (∀ W, Below w.heap.size w W → Calls Try.prog 24 #[.agg #[.int .i64 T, .int .i64 k], .slice A N c] W (PlayR ((mc0 k T).moves_ ms) W)) := fun W hW => play_fit hrng ms A N c hmsl W (hsl.out W hW) hN2 hop2.out
  clear h hop hA hn hT hk hN hms
  go_enter Try.func5, Try.ntmps5
  go_upto_region 1 with fail
  have hb0 : Below w.heap.size w (w.alloc (.cells #[.int .i64 T0, .int .i64 k0] 24)) := (Below.refl _ _).alloc (Nat.le_refl _) _
  have hr0 : Blk (w.alloc (.cells #[.int .i64 T0, .int .i64 k0] 24)) w.heap.size 24 [.int .i64 T0, .int .i64 k0] := Blk.new _ _ _
  generalize w.alloc (.cells #[.int .i64 T0, .int .i64 k0] 24) = w0 at hb0 hr0 ⊢
  have hrl := hr0.lt
  have d0 : w0.cell? ⟨w.heap.size, 0, none⟩ = some (.int .i64 T0) := hr0.cell rfl
  have d1 : w0.cell? ⟨w.heap.size, 1, none⟩ = some (.int .i64 k0) := hr0.cell rfl
  have HB0 := Lib.hid hb0
  have HR0 := Lib.hid hr0
  clear hb0 hr0
  go_wp2_with fail
  refine (hF.out _).mono ?_
  rintro e w1 ⟨rfl, hb1⟩
  have hr1 := HR0.out.below hb1 hrl
  have hl1 := hr1.lt
  have HB1 := Lib.hid (HB0.out.trans (hb1.mono (by omega)))
  have HR1 := Lib.hid hr1
  have d0 : w1.cell? ⟨w.heap.size, 0, none⟩ = some (.int .i64 T0) := hr1.cell rfl
  have d1 : w1.cell? ⟨w.heap.size, 1, none⟩ = some (.int .i64 k0) := hr1.cell rfl
  have f0 := hr1.frozen 0
  have f1 := hr1.frozen 1
  clear hb1 hr1
  go_upto_region 2 with fail
  have hb2 : Below w.heap.size w ((w1.setCell ⟨w.heap.size, 0, none⟩ (.int .i64 T)).setCell ⟨w.heap.size, 1, none⟩ (.int .i64 k)) := (HB1.out.setCell (p := ⟨w.heap.size, 0, none⟩) (Nat.le_refl _) _).setCell (p := ⟨w.heap.size, 1, none⟩) (Nat.le_refl _) _
  have hr2 : Blk ((w1.setCell ⟨w.heap.size, 0, none⟩ (.int .i64 T)).setCell ⟨w.heap.size, 1, none⟩ (.int .i64 k)) w.heap.size 24 [.int .i64 T, .int .i64 k] := (HR1.out.set_ 0 _).set_ 1 _
  generalize (w1.setCell ⟨w.heap.size, 0, none⟩ (.int .i64 T)).setCell ⟨w.heap.size, 1, none⟩ (.int .i64 k) = w2 at hb2 hr2 ⊢
  have hl2 := hr2.lt
  have d0 : w2.cell? ⟨w.heap.size, 0, none⟩ = some (.int .i64 T) := hr2.cell rfl
  have d1 : w2.cell? ⟨w.heap.size, 1, none⟩ = some (.int .i64 k) := hr2.cell rfl
  have HB2 := Lib.hid hb2
  have HR2 := Lib.hid hr2
  clear hb2 hr2
  go_wp2_with fail
  refine (hP.out w2 HB2.out).mono ?_
  obtain ⟨m, hm⟩ : ∃ m, m = (mc0 k T).moves_ ms := ⟨_, rfl⟩
  rw [← hm]
  have hbn := moves_bnd ms (mc0 k T)
  rw [← hm, hmsl] at hbn
  have hcl : m.calls.length ≤ 65536 := by have h9 : m.calls.length ≤ 0 + N := hbn.2.2.1; omega
  have hll : m.log.length ≤ 65536 := by have h9 : m.log.length ≤ 0 + N := hbn.2.1; omega
  have HM := Lib.hid hm
  clear hm hbn
  rintro e w3 ⟨Ac, kc, At, kt, Aw, kw, rfl, o1, o2, o3, hb3⟩
  have hr3 := HR2.out.below hb3 hl2
  have hl3 := hr3.lt
  have HB3 := Lib.hid (HB2.out.trans (hb3.mono (by omega)))
  have HR3 := Lib.hid hr3
  have HO1 := Lib.hid o1
  have HO2 := Lib.hid o2
  have HO3 := Lib.hid o3
  have hz3 := hb3.size
  clear hb3 hr3 o1 o2 o3
  go_upto_region 3 with fail
  have hb4 : Below w3.heap.size w3 (w3.alloc (.cells #[.slice Ac m.calls.length kc, .slice At m.log.length kt, .slice none 0 0, .slice Aw m.words.length kw] 39)) := (Below.refl _ _).alloc (Nat.le_refl _) _
  have hq4 : Blk (w3.alloc (.cells #[.slice Ac m.calls.length kc, .slice At m.log.length kt, .slice none 0 0, .slice Aw m.words.length kw] 39)) w3.heap.size 39 [.slice Ac m.calls.length kc, .slice At m.log.length kt, .slice none 0 0, .slice Aw m.words.length kw] := Blk.new _ _ _
  generalize w3.alloc (.cells #[.slice Ac m.calls.length kc, .slice At m.log.length kt, .slice none 0 0, .slice Aw m.words.length kw] 39) = w4 at hb4 hq4 ⊢
  have hr4 := HR3.out.below hb4 hl3
  have hl4 := hr4.lt
  have hm4 := hq4.lt
  have HB4 := Lib.hid (HB3.out.trans (hb4.mono (by omega)))
  have HR4 := Lib.hid hr4
  have HQ4 := Lib.hid hq4
  have HO14 := Lib.hid (HO1.out.below hb4)
  have HO24 := Lib.hid (HO2.out.below hb4)
  have HO34 := Lib.hid (HO3.out.below hb4)
  clear hb4 hr4 hq4
  go_wp2_with fail
  refine (awake_any _).mono ?_
  rintro e w5 ⟨rfl, hb5⟩
  have hr5 := HR4.out.below hb5 hl4
  have hq5 := HQ4.out.below hb5 hm4
  have hl5 := hr5.lt
  have hm5 := hq5.lt
  have HB5 := Lib.hid (HB4.out.trans (hb5.mono (by omega)))
  have HR5 := Lib.hid hr5
  have HQ5 := Lib.hid hq5
  have HO15 := Lib.hid (HO14.out.below hb5)
  have HO25 := Lib.hid (HO24.out.below hb5)
  have HO35 := Lib.hid (HO34.out.below hb5)
  have d1 : w5.cell? ⟨w.heap.size, 1, none⟩ = some (.int .i64 k) := hr5.cell rfl
  have r0 : w5.cell? ⟨w3.heap.size, 0, none⟩ = some (.slice Ac m.calls.length kc) := hq5.cell rfl
  have r1 : w5.cell? ⟨w3.heap.size, 1, none⟩ = some (.slice At m.log.length kt) := hq5.cell rfl
  clear hb5 hr5 hq5 HB0 HB1 HB2 HB3 HB4 HR0 HR1 HR2 HR3 HR4 HQ4 HO1 HO14 HO24 HO34 HO2 HO3
  have d0 : w5.cell? ⟨w.heap.size, 0, none⟩ = some (.int .i64 T) := HR5.out.cell rfl
  have hrT : 1 ≤ T ∧ T ≤ 16 := by unfold rangeB at hrng; simp at hrng; omega
  obtain ⟨tn, rfl⟩ : ∃ tn : Nat, T = tn := ⟨T.toNat, by omega⟩
  have hmk : ∀ W : World, (Instr.makeSlice 56 (.int .i64 tn) (.int .i64 tn)).run Try.prog W = .ok (.slice (some ⟨W.heap.size, 0, none⟩) tn tn) (W.alloc (.cells (madeCells #[.int .i64 0] tn) 3)) := by
    intro W
    exact run_make_row' (P := Try.prog) 56 3 (.int .i64 0) 8 Try.underlying56 info_iis rfl .i64 .i64 tn (by omega) (by omega) W
  obtain ⟨I, hI⟩ : ∃ I : Nat → List Int, I = fun j => insOf ((mc0 k tn).moves_ (ms.take j)) := ⟨_, rfl⟩
  obtain ⟨U, hU⟩ : ∃ U : Nat → Int, U = fun j => wd ((mc0 k tn).moves_ (ms.take j)).words 0 := ⟨_, rfl⟩
  have hE : Hid (∀ j, j < N → ExL tn j m.calls (I j) (U j) (I (j + 1)) (U (j + 1)) ∧ ((I (j + 1)).countP (fun i => i == 1) = 0 ∨ (I (j + 1)).countP (fun i => decide (0 < i)) ≤ 1)) := fun j hj => by
    have h := excl_all hkr hrT ms (by omega) (j := j) (by omega)
    rw [← HM.out] at h
    rw [hI, hU]
    exact h
  obtain ⟨z1, z2⟩ := excl_zero hkr hrT
  have hI0 : Hid (I 0 = List.replicate tn 0) := by rw [hI]; show insOf ((mc0 k tn).moves_ (ms.take 0)) = _; rw [List.take_zero]; exact z1
  have hU0 : U 0 = 0 := by rw [hU]; show wd ((mc0 k tn).moves_ (ms.take 0)).words 0 = 0; rw [List.take_zero]; exact z2
  have hUN : Hid (U N = wd m.words 0) := by rw [hU, HM.out]; show wd ((mc0 k tn).moves_ (ms.take N)).words 0 = _; rw [← hmsl, List.take_length]
  have hUb : Hid (∀ j, 0 ≤ U j ∧ U j ≤ 65536) := fun j => by
    have h := (tc_moves (ms.take j) (st0 hkr hrT) (tc0 hkr hrT)).w0
    rw [mv_count _ _ (by show 0 + _ ≤ _; rw [List.length_take]; omega)] at h
    have h0 : (mc0 k tn).moves = 0 := rfl
    rw [h0, List.length_take] at h
    rw [hU]
    show 0 ≤ wd _ 0 ∧ wd _ 0 ≤ _
    omega
  have hIl : Hid (∀ j, (I j).length = tn) := fun j => by
    rw [hI]
    show (insOf _).length = _
    rw [insOf_len, (moves_bnd _ _).2.2.2]
    show ((List.range (tn : Int).toNat).map _).length = _
    simp
  have hwl : Hid (m.words.length = (lkWords k tn).length) := by rw [HM.out]; exact (moves_bnd _ _).1
  have hwp : 1 ≤ m.words.length := by rw [hwl.out]; exact (tc0 hkr hrT).wl
  clear hI hU z1 z2
  go_upto_region 6 with fail
  have hb6 : Below w5.heap.size w5 (w5.alloc (.cells (madeCells #[.int .i64 0] tn) 3)) := (Below.refl _ _).alloc (Nat.le_refl _) _
  have hn6 : Blk (w5.alloc (.cells (madeCells #[.int .i64 0] tn) 3)) w5.heap.size 3 (iis (I 0)) := by
    rw [madeCells_one, hI0.out]
    have := Blk.new w5 3 (iis (List.replicate tn 0))
    rw [show iis (List.replicate tn 0) = List.replicate tn (.int .i64 0) by simp [iis]] at this ⊢
    exact this
  generalize w5.alloc (.cells (madeCells #[.int .i64 0] tn) 3) = w6 at hb6 hn6 ⊢
  have hz6 := hb6.size
  have HB6 := Lib.hid hb6
  have HN6 := Lib.hid hn6
  obtain ⟨gI, hgI⟩ : ∃ gI, gI = w5.heap.size := ⟨_, rfl⟩
  rw [← hgI] at HN6
  have r0 : w6.cell? ⟨w3.heap.size, 0, none⟩ = some (.slice Ac m.calls.length kc) := (HQ5.out.below hb6 hm5).cell rfl
  have d0 : w6.cell? ⟨w.heap.size, 0, none⟩ = some (.int .i64 tn) := (HR5.out.below hb6 hl5).cell rfl
  clear hb6 hn6 d1 r1
  rw [← hgI]
  have hgI0 : w5.heap.size ≤ gI := by omega
  clear hgI
  go_wp2_with fail
  go_loopg [8, 9] N (fun gk s8 s9 wr => ∃ (j : Nat), j + gk = N ∧ s9 = .int .i64 j ∧ s8 = .int .i64 (U j) ∧ Hid (Below w5.heap.size w5 wr) ∧ Hid (Blk wr gI 3 (iis (I j))))
  case atStart => exact ⟨0, by omega, rfl, by rw [hU0], HB6.out, HN6.out⟩
  case round =>
    obtain ⟨j, hj, rfl, rfl, hB, hN⟩ := hrel
    have hzr := hB.out.size
    have hqr := HQ5.out.below hB.out hm5
    have r0 : wr.cell? ⟨w3.heap.size, 0, none⟩ = some (.slice Ac m.calls.length kc) := hqr.cell rfl
    have hlq := hqr.lt
    clear hqr
    by_cases hlt : j < N
    · have e1 : (j : Int) < N := by omega
      obtain ⟨hEj, hCj⟩ := hE.out j hlt
      have HEj := Lib.hid hEj
      have HCj := Lib.hid hCj
      clear hEj hCj
      obtain ⟨hu0, hu1⟩ := hUb.out j
      obtain ⟨hu2, hu3⟩ := hUb.out (j + 1)
      go_wp2_with fail
      obtain ⟨wo, rfl⟩ : ∃ wo : World, wo = wr := ⟨_, rfl⟩
      obtain ⟨go, rfl⟩ : ∃ go : Nat, go = gk := ⟨_, rfl⟩
      go_loopg [8, 46] m.calls.length (fun g2 s8 i wq => ∃ (q : Nat) (il : List Int) (u : Int), q + g2 = m.calls.length ∧ i = .int .i64 q ∧ s8 = .int .i64 u ∧ 0 ≤ u ∧ Hid (Below w5.heap.size w5 wq) ∧ Hid (Blk wq gI 3 (iis il)) ∧ Hid (ExL tn j (m.calls.drop q) il u (I (j + 1)) (U (j + 1))))
      case atStart => exact ⟨0, I j, U j, by omega, rfl, rfl, hu0, hB.out, hN.out, HEj.out⟩
      case round =>
        obtain ⟨q, il, u, hq, rfl, rfl, hu, hBq, hNq, hXq⟩ := hrel
        have hzq := hBq.out.size
        have hcq := HR5.out.below hBq.out hl5
        have hqq := HQ5.out.below hBq.out hm5
        have d0 : wr.cell? ⟨w.heap.size, 0, none⟩ = some (.int .i64 tn) := hcq.cell rfl
        have hll2 := hcq.lt
        have hlq2 := hqq.lt
        clear hcq hqq
        have hul := exl_le hXq.out
        have hill : il.length = tn := by rw [← exl_len hXq.out]; exact hIl.out (j + 1)
        have hnl := hNq.out.lt
        by_cases hlt2 : q < m.calls.length
        · obtain ⟨x, hx⟩ := at_lt hlt2
          obtain ⟨i1, u1, hx1, hx2⟩ := exl_cut hx hXq.out
          have f1 : (q : Int) < m.calls.length := by omega
          have f0 : (0 : Int) ≤ q := by omega
          obtain ⟨b2, o2, hA2, hbl2, hcell2⟩ := ((Sl.of_own HO15.out).below hBq.out).2 (by omega)
          obtain ⟨⟨t0, t1⟩, hcase⟩ := hx1
          obtain ⟨th, hth⟩ : ∃ th : Nat, x.th = th := ⟨x.th.toNat, by omega⟩
          have hthn : x.th.toNat = th := by omega
          have v0 : wr.cell? ⟨b2, o2 + q * 9, none⟩ = some (.int .i64 th) := by have := hcell2 (q * 9 + 0) _ (calVals_get hx 0 (by omega)); rw [← hth]; simpa using this
          have v1 : wr.cell? ⟨b2, o2 + q * 9 + 1, none⟩ = some (.int .i64 x.op) := by have := hcell2 (q * 9 + 1) _ (calVals_get hx 1 (by omega)); rw [← Nat.add_assoc] at this; exact this
          have v2 : wr.cell? ⟨b2, o2 + q * 9 + 2, none⟩ = some (.int .i64 x.arg) := by have := hcell2 (q * 9 + 2) _ (calVals_get hx 2 (by omega)); rw [← Nat.add_assoc] at this; exact this
          have v3 : wr.cell? ⟨b2, o2 + q * 9 + 3, none⟩ = some (.int .i64 x.dat) := by have := hcell2 (q * 9 + 3) _ (calVals_get hx 3 (by omega)); rw [← Nat.add_assoc] at this; exact this
          have v4 : wr.cell? ⟨b2, o2 + q * 9 + 4, none⟩ = some (.int .i64 x.beg) := by have := hcell2 (q * 9 + 4) _ (calVals_get hx 4 (by omega)); rw [← Nat.add_assoc] at this; exact this
          have v5 : wr.cell? ⟨b2, o2 + q * 9 + 5, none⟩ = some (.int .i64 x.fin) := by have := hcell2 (q * 9 + 5) _ (calVals_get hx 5 (by omega)); rw [← Nat.add_assoc] at this; exact this
          have v6 : wr.cell? ⟨b2, o2 + q * 9 + 6, none⟩ = some (.int .i64 x.pt) := by have := hcell2 (q * 9 + 6) _ (calVals_get hx 6 (by omega)); rw [← Nat.add_assoc] at this; exact this
          have v7 : wr.cell? ⟨b2, o2 + q * 9 + 7, none⟩ = some (.int .i64 x.ak) := by have := hcell2 (q * 9 + 7) _ (calVals_get hx 7 (by omega)); rw [← Nat.add_assoc] at this; exact this
          have v8 : wr.cell? ⟨b2, o2 + q * 9 + 8, none⟩ = some (.int .i64 x.av) := by have := hcell2 (q * 9 + 8) _ (calVals_get hx 8 (by omega)); rw [← Nat.add_assoc] at this; exact this
          subst hA2
          have hbe2 : b2 < wr.heap.size := by omega
          have HX2 := Lib.hid hx2
          clear hcell2 hx hx2 hXq
          have t2 : (th : Int) < tn := by omega
          have t3 : th < tn := by omega
          have q1 : decide ((th : Int) < 0) = false := decide_eq_false (by omega)
          have q2 : decide ((tn : Int) ≤ th) = false := decide_eq_false (by omega)
          go_upto_region 13 with fail
          have hb7 : Below w5.heap.size w5 (wr.alloc (.cells #[.int .i64 th, .int .i64 x.op, .int .i64 x.arg, .int .i64 x.dat, .int .i64 x.beg, .int .i64 x.fin, .int .i64 x.pt, .int .i64 x.ak, .int .i64 x.av] 62)) := hBq.out.alloc hzq _
          have hx7 : Blk (wr.alloc (.cells #[.int .i64 th, .int .i64 x.op, .int .i64 x.arg, .int .i64 x.dat, .int .i64 x.beg, .int .i64 x.fin, .int .i64 x.pt, .int .i64 x.ak, .int .i64 x.av] 62)) wr.heap.size 62 [.int .i64 th, .int .i64 x.op, .int .i64 x.arg, .int .i64 x.dat, .int .i64 x.beg, .int .i64 x.fin, .int .i64 x.pt, .int .i64 x.ak, .int .i64 x.av] := Blk.new _ _ _
          have hn7 := hNq.out.alloc (.cells #[.int .i64 th, .int .i64 x.op, .int .i64 x.arg, .int .i64 x.dat, .int .i64 x.beg, .int .i64 x.fin, .int .i64 x.pt, .int .i64 x.ak, .int .i64 x.av] 62)
          have hd7 : (wr.alloc (.cells #[.int .i64 th, .int .i64 x.op, .int .i64 x.arg, .int .i64 x.dat, .int .i64 x.beg, .int .i64 x.fin, .int .i64 x.pt, .int .i64 x.ak, .int .i64 x.av] 62)).cell? ⟨w.heap.size, 0, none⟩ = some (.int .i64 tn) := (HR5.out.below hb7 hl5).cell rfl
          obtain ⟨gX, hgX⟩ : ∃ gX, gX = wr.heap.size := ⟨_, rfl⟩
          have hgne : gI ≠ gX := by omega
          have hgx0 : w5.heap.size ≤ gX := by omega
          rw [← hgX] at hx7 ⊢
          clear hgX
          generalize wr.alloc (.cells #[.int .i64 th, .int .i64 x.op, .int .i64 x.arg, .int .i64 x.dat, .int .i64 x.beg, .int .i64 x.fin, .int .i64 x.pt, .int .i64 x.ak, .int .i64 x.av] 62) = w7 at hb7 hx7 hn7 hd7 ⊢
          have k0 : w7.cell? ⟨gX, 0, none⟩ = some (.int .i64 th) := hx7.cell rfl
          have k1 : w7.cell? ⟨gX, 1, none⟩ = some (.int .i64 x.op) := hx7.cell rfl
          have k4 : w7.cell? ⟨gX, 4, none⟩ = some (.int .i64 x.beg) := hx7.cell rfl
          have k5 : w7.cell? ⟨gX, 5, none⟩ = some (.int .i64 x.fin) := hx7.cell rfl
          have k8 : w7.cell? ⟨gX, 8, none⟩ = some (.int .i64 x.av) := hx7.cell rfl
          have hxl := hx7.lt
          have hnl7 := hn7.lt
          have hz7 := hb7.size
          have HB7 := Lib.hid hb7
          have HX7 := Lib.hid hx7
          have HN7 := Lib.hid hn7
          obtain ⟨z, hz⟩ := at_lt (l := il) (j := th) (by omega)
          have n0 : w7.cell? ⟨gI, th, none⟩ = some (.int .i64 z) := hn7.cell (by simp [iis, hz])
          have nf := hn7.frozen th
          have HZ := Lib.hid hz
          clear hb7 hx7 hn7 hz v0 v1 v2 v3 v4 v5 v6 v7 v8
          have hset : ∀ y : Int, Hid (Blk (w7.setCell ⟨gI, th, none⟩ (.int .i64 y)) gI 3 (iis (il.set th y))) := fun y => by
            have h := HN7.out.set_ th (.int .i64 y)
            rw [show (iis il).set th (.int .i64 y) = iis (il.set th y) by simp [iis, List.map_set]] at h
            exact h
          have hbs : ∀ y : Int, Hid (Below w5.heap.size w5 (w7.setCell ⟨gI, th, none⟩ (.int .i64 y))) := fun y => HB7.out.setCell (p := ⟨gI, th, none⟩) (by dsimp only; omega) _
          rw [hthn] at hcase
          rcases hcase with ⟨c1, c2, c3, ⟨c4, c5⟩ | ⟨⟨c4, c4'⟩, c5⟩⟩ | ⟨c1, c2, c3, c5⟩ | ⟨c1, c2, ⟨c4, c3, c5⟩ | ⟨c4, c3, c5⟩ | ⟨c4, c6, c7, c3, c5⟩ | ⟨c4, c4', c4'', c3, c5⟩⟩
          · have HX3 := Lib.hid HX2.out
            rw [c3, c5] at HX3
            by_cases c6 : x.op = 121
            · have b1 : (x.beg == (j : Int)) = true := by simp [c1]
              have b2 : (x.op == 121) = true := by simp [c6]
              have b4 : (x.fin != (j : Int)) = true := by simp [c2]
              clear c1 c2 c3 c4 c5 c6
              go_wp2_with fail
              go_roundg (gk - 1)
              case measure => omega
              case rel => exact ⟨q + 1, il.set th 0, u, by omega, by go_num, by first | rfl | go_num, by omega, (hbs 0).out, (hset 0).out, HX3.out⟩
            · have c7 : x.op = 123 := by omega
              have b1 : (x.beg == (j : Int)) = true := by simp [c1]
              have b2 : (x.op == 121) = false := by simp [c6]
              have b3 : (x.op == 123) = true := by simp [c7]
              have b4 : (x.fin != (j : Int)) = true := by simp [c2]
              clear c1 c2 c3 c4 c5 c6 c7
              go_wp2_with fail
              go_roundg (gk - 1)
              case measure => omega
              case rel => exact ⟨q + 1, il.set th 0, u, by omega, by go_num, by first | rfl | go_num, by omega, (hbs 0).out, (hset 0).out, HX3.out⟩
          · have HX3 := Lib.hid HX2.out
            rw [c3, c5] at HX3
            have b1 : (x.beg == (j : Int)) = true := by simp [c1]
            have b2 : (x.op == 121) = false := by simp [c4]
            have b3 : (x.op == 123) = false := by simp [c4']
            have b4 : (x.fin != (j : Int)) = true := by simp [c2]
            clear c1 c2 c3 c4 c4' c5
            go_wp2_with fail
            go_roundg (gk - 1)
            case measure => omega
            case rel => exact ⟨q + 1, il, u, by omega, by go_num, by first | rfl | go_num, by omega, HB7.out, HN7.out, HX3.out⟩
          · have HX3 := Lib.hid HX2.out
            rw [c3, c5] at HX3
            have b1 : (x.beg == (j : Int)) = false := by simp [c1]
            have b4 : (x.fin != (j : Int)) = true := by simp [c2]
            clear c1 c2 c3 c5
            go_wp2_with fail
            go_roundg (gk - 1)
            case measure => omega
            case rel => exact ⟨q + 1, il, u, by omega, by go_num, by first | rfl | go_num, by omega, HB7.out, HN7.out, HX3.out⟩
          · have HX3 := Lib.hid HX2.out
            rw [c3, c5] at HX3
            have b1 : (x.beg == (j : Int)) = false := by simp [c1]
            have b4 : (x.fin != (j : Int)) = false := by simp [c2]
            have b5 : (x.op == 120) = true := by simp [c4]
            clear c1 c2 c3 c4 c5
            go_wp2_with fail
            go_roundg (gk - 1)
            case measure => omega
            case rel => exact ⟨q + 1, il.set th 1, u, by omega, by go_num, by first | rfl | go_num, by omega, (hbs 1).out, (hset 1).out, HX3.out⟩
          · have HX3 := Lib.hid HX2.out
            rw [c3, c5] at HX3
            have b1 : (x.beg == (j : Int)) = false := by simp [c1]
            have b4 : (x.fin != (j : Int)) = false := by simp [c2]
            have b5 : (x.op == 120) = false := by simp [c4]
            have b6 : (x.op == 122) = true := by simp [c4]
            clear c1 c2 c3 c4 c5
            go_wp2_with fail
            go_roundg (gk - 1)
            case measure => omega
            case rel => exact ⟨q + 1, il.set th 2, u, by omega, by go_num, by first | rfl | go_num, by omega, (hbs 2).out, (hset 2).out, HX3.out⟩
          · have HX3 := Lib.hid HX2.out
            rw [c3, c5] at HX3
            have hz1 : z = 1 := by have h9 := HZ.out; rw [c6] at h9; injection h9 with h9; exact h9.symm
            subst hz1
            have hul9 := exl_le HX3.out
            have b1 : (x.beg == (j : Int)) = false := by simp [c1]
            have b4 : (x.fin != (j : Int)) = false := by simp [c2]
            have b5 : (x.op == 120) = false := by simp [c4]
            have b6 : (x.op == 122) = false := by simp [c4]
            have b7 : (x.op == 124) = true := by simp [c4]
            have b8 : (x.av != u) = false := by simp [c7]
            clear c1 c2 c3 c4 c5 c6 c7
            go_wp2_with fail
            go_roundg (gk - 1)
            case measure => omega
            case rel => exact ⟨q + 1, il, u + 1, by omega, by go_num, by first | rfl | go_num, by omega, HB7.out, HN7.out, HX3.out⟩
          · have HX3 := Lib.hid HX2.out
            rw [c3, c5] at HX3
            have b1 : (x.beg == (j : Int)) = false := by simp [c1]
            have b4 : (x.fin != (j : Int)) = false := by simp [c2]
            have b5 : (x.op == 120) = false := by simp [c4]
            have b6 : (x.op == 122) = false := by simp [c4']
            have b7 : (x.op == 124) = false := by simp [c4'']
            clear c1 c2 c3 c4 c4' c4'' c5
            go_wp2_with fail
            go_roundg (gk - 1)
            case measure => omega
            case rel => exact ⟨q + 1, il, u, by omega, by go_num, by first | rfl | go_num, by omega, HB7.out, HN7.out, HX3.out⟩
        · obtain rfl : q = m.calls.length := by omega
          obtain ⟨rfl, rfl⟩ := exl_end hXq.out
          clear hXq
          go_wp2_with fail
          obtain ⟨wi, rfl⟩ : ∃ wi : World, wi = wr := ⟨_, rfl⟩
          go_loopg [12, 13, 116] tn (fun g3 s12 s13 i wz => ∃ (q a b : Nat), q + g3 = tn ∧ i = .int .i64 q ∧ s12 = .int .i64 a ∧ s13 = .int .i64 b ∧ a ≤ q ∧ b ≤ q ∧ wz = wi ∧ Hid (a + ((I (j + 1)).drop q).countP (fun i => i == 1) = (I (j + 1)).countP (fun i => i == 1)) ∧ Hid (b + ((I (j + 1)).drop q).countP (fun i => decide (0 < i)) = (I (j + 1)).countP (fun i => decide (0 < i))))
          case atStart => exact ⟨0, 0, 0, by omega, rfl, rfl, rfl, Nat.le_refl _, Nat.le_refl _, rfl, by show _ = _; rw [List.drop_zero]; omega, by show _ = _; rw [List.drop_zero]; omega⟩
          case round =>
            obtain ⟨q, a, b, hq3, rfl, rfl, rfl, ha, hb, hwz, h1, h2⟩ := hrel
            subst hwz
            by_cases hlt3 : q < tn
            · obtain ⟨z, hz⟩ := at_lt (l := I (j + 1)) (j := q) (by omega)
              have n0 : wr.cell? ⟨gI, q, none⟩ = some (.int .i64 z) := hNq.out.cell (by simp [iis, hz])
              have f1 : (q : Int) < tn := by omega
              have f0 : (0 : Int) ≤ q := by omega
              obtain ⟨g1, g1'⟩ := cnt_cut hz h1.out
              obtain ⟨g2, g2'⟩ := cnt_cut hz h2.out
              by_cases hz1 : z = 1
              · have b1 : (z == 1) = true := by simp [hz1]
                have b2 : decide (0 < z) = true := decide_eq_true (by omega)
                have G1 := Lib.hid (g1 b1)
                have G2 := Lib.hid (g2 b2)
                clear g1 g1' g2 g2' hz hz1
                go_wp2_with fail
                go_roundg (gk - 1)
                case measure => omega
                case rel => exact ⟨q + 1, a + 1, b + 1, by omega, by go_num, by go_num, by go_num, by omega, by omega, rfl, G1.out, G2.out⟩
              · have b1 : (z == 1) = false := by simp [hz1]
                by_cases hz2 : 0 < z
                · have b2 : decide (0 < z) = true := decide_eq_true hz2
                  have G1 := Lib.hid (g1' b1)
                  have G2 := Lib.hid (g2 b2)
                  clear g1 g1' g2 g2' hz hz1 hz2
                  go_wp2_with fail
                  go_roundg (gk - 1)
                  case measure => omega
                  case rel => exact ⟨q + 1, a, b + 1, by omega, by go_num, rfl, by go_num, by omega, by omega, rfl, G1.out, G2.out⟩
                · have b2 : decide (0 < z) = false := decide_eq_false hz2
                  have G1 := Lib.hid (g1' b1)
                  have G2 := Lib.hid (g2' b2)
                  clear g1 g1' g2 g2' hz hz1 hz2
                  go_wp2_with fail
                  go_roundg (gk - 1)
                  case measure => omega
                  case rel => exact ⟨q + 1, a, b, by omega, by go_num, rfl, rfl, by omega, by omega, rfl, G1.out, G2.out⟩
            · obtain rfl : q = tn := by omega
              have h1' := h1.out
              have h2' := h2.out
              have hil9 := hIl.out (j + 1)
              rw [← hil9] at h1' h2'
              have h1'' := cnt_end h1'
              have h2'' := cnt_end h2'
              have hc := HCj.out
              rw [← h1'', ← h2''] at hc
              clear h1 h2 h1' h2' h1'' h2'' hil9
              by_cases ha0 : a = 0
              · have p1 : decide ((0 : Int) < (a : Int)) = false := decide_eq_false (by omega)
                have p2 : decide (0 < a) = false := decide_eq_false (by omega)
                clear hc ha0
                go_wp2_with fail
                go_roundg (go - 1)
                case measure => omega
                case rel => exact ⟨j + 1, by omega, by go_num, rfl, hBq.out, hNq.out⟩
              · have p1 : decide ((0 : Int) < (a : Int)) = true := decide_eq_true (by omega)
                have p2 : decide (0 < a) = true := decide_eq_true (by omega)
                have p3 : decide ((1 : Int) < (b : Int)) = false := decide_eq_false (by omega)
                have p4 : decide (1 < b) = false := decide_eq_false (by omega)
                clear hc ha0
                go_wp2_with fail
                go_roundg (go - 1)
                case measure => omega
                case rel => exact ⟨j + 1, by omega, by go_num, rfl, hBq.out, hNq.out⟩
    · obtain rfl : j = N := by omega
      have hcr := HR5.out.below hB.out hl5
      have hqr := HQ5.out.below hB.out hm5
      have ho := HO35.out.below hB.out
      obtain ⟨gw, kw', e9⟩ := own_some ho (by omega)
      injection e9 with e9 _ e10
      subst e9 e10
      obtain ⟨gv, ov, e11, hgw, hcw⟩ := (Sl.of_own ho).2 (by omega)
      injection e11 with e11
      injection e11 with e11 e12
      subst e11 e12
      have hu9 : wd m.words 0 = U j := hUN.out.symm
      obtain ⟨z, hz⟩ := at_lt (l := m.words) (j := 0) (by omega)
      have hz0 : z = U j := by rw [← hu9]; unfold wd; rw [hz]; rfl
      subst hz0
      have u0 : wr.cell? ⟨gw, 0, none⟩ = some (.int .u64 (U j)) := hcw 0 _ (by simp [u64s, hz])
      obtain ⟨hub0, hub1⟩ := hUb.out j
      have hgl : gw < w5.heap.size := (HO35.out.lt gw rfl).2
      have HCR := Lib.hid hcr
      have HQR := Lib.hid hqr
      have hlc9 := hcr.lt
      have hlq9 := hqr.lt
      have HU0 : Hid (wr.cell? ⟨gw, 0, none⟩ = some (.int .u64 (U j))) := u0
      have b1 : ((m.words.length : Int) == ((lkWords k tn).length : Int)) = true := by rw [hwl.out]; simp
      have HUB : Hid (Hid (0 ≤ U j ∧ U j ≤ 65536)) := Lib.hid (hUb.out j)
      have m1 : wrap64 (U j) = U j := iw_id (by omega)
      have hw0 : 0 < m.words.length := by omega
      have hw1 : (0 : Int) < m.words.length := by omega
      obtain ⟨y, hy⟩ : ∃ y, y = U j := ⟨_, rfl⟩
      rw [← hy] at u0 HU0 m1 ⊢
      clear hy hub0 hub1 hgw hcw hz
      have HK : Hid (∀ W, Below wr.heap.size wr W → Calls Try.prog 15 #[.agg #[.int .i64 tn, .int .i64 k]] W (WdsR (lkWords k tn) idV W)) := fun W _ => rwords_all hrng W
      have HS : Hid (∀ W, Below wr.heap.size wr W → Below wr.heap.size wr W ∧ W.cell? ⟨w.heap.size, 0, none⟩ = some (.int .i64 tn) ∧ W.cell? ⟨w.heap.size, 1, none⟩ = some (.int .i64 k) ∧ W.cell? ⟨w3.heap.size, 3, none⟩ = some (.slice (some ⟨gw, 0, none⟩) m.words.length kw) ∧ W.cell? ⟨gw, 0, none⟩ = some (.int .u64 y)) := fun W hB => ⟨hB, (HCR.out.below hB hlc9).cell rfl, (HCR.out.below hB hlc9).cell rfl, (HQR.out.below hB hlq9).cell rfl, (hB.cell (p := ⟨gw, 0, none⟩) (by dsimp only; omega)).trans HU0.out⟩
      have HS8 := Lib.hid (HS.out wr (Below.refl _ _))
      have d0 : wr.cell? ⟨w.heap.size, 0, none⟩ = some (.int .i64 tn) := hcr.cell rfl
      have d1 : wr.cell? ⟨w.heap.size, 1, none⟩ = some (.int .i64 k) := hcr.cell rfl
      have r3 : wr.cell? ⟨w3.heap.size, 3, none⟩ = some (.slice (some ⟨gw, 0, none⟩) m.words.length kw) := hqr.cell rfl
      clear hcr hqr ho hlt hN
      go_upto_region 39 with fail
      go_cut [4] (fun s4 wc => s4 = .bool true ∧ Below wr.heap.size wr wc)
      case first =>
        go_region_held3 (fun W => Below wr.heap.size wr W ∧ W.cell? ⟨w.heap.size, 0, none⟩ = some (.int .i64 tn) ∧ W.cell? ⟨w.heap.size, 1, none⟩ = some (.int .i64 k) ∧ W.cell? ⟨w3.heap.size, 3, none⟩ = some (.slice (some ⟨gw, 0, none⟩) m.words.length kw) ∧ W.cell? ⟨gw, 0, none⟩ = some (.int .u64 y))
          ((refine HS.out _ ?_; go_split_ands; first | assumption | exact (Below.refl _ _).drew | exact Below.trans ‹Below wr.heap.size wr _› (hb9.mono (‹Below wr.heap.size wr _›).size)))
          (first | (go_at_call 15; refine (HK.out _ (by first | assumption | exact And.left ‹Below wr.heap.size wr _ ∧ _›)).mono ?_; rintro e W9 ⟨g9, rfl, hk9, hg9, hb9⟩))
        all_goals (go_wp2_with fail; go_meet; go_split_ands)
        all_goals exact ⟨by rw [IntWalk.i64_left, m1]; simp, by assumption⟩
      case rest =>
        obtain ⟨rfl, hb9⟩ := hcut
        have HF : Hid (Below w.heap.size w wc) := HB5.out.trans ((hB.out.trans (hb9.mono (by omega))).mono (by omega))
        clear hb9
        go_wp2_with fail
        go_ret
        exact ⟨rfl, HF.out⟩
end Go.Proofs.Ytjnmlgfkiebkgaa
