/-
  LocksFirst's law.
-/
import Derived.Test.YtjnmlgfkiebkgaaLxn
import Derived.Test.YtjnmlgfkiebkgaaLom
namespace Go.Proofs.Ytjnmlgfkiebkgaa
open Go.RowKit
set_option linter.unusedVariables false
set_option linter.unusedSimpArgs false

theorem range_kd {T k : Int} (h : rangeB T k 1 7 = true) : 1 ≤ k ∧ k ≤ 7 := by
  unfold rangeB at h
  simp at h
  omega
/-- who must be let in first -/
def Fst (k : Int) (x y : Cal) : Prop := ((2 ≤ k ∧ k ≤ 4) ∧ x.pt < y.pt) ∨ (k = 6 ∧ x.pt < y.beg)
def FF (m : Mc) : Prop := ∀ (i j : Nat) (x y : Cal), i ≠ j → m.calls[i]? = some x → m.calls[j]? = some y → x.op = 120 → 0 ≤ x.pt → y.op = 120 → y.fin ≠ -1 → Fst m.kd x y → x.fin ≠ -1 ∧ x.fin ≤ y.fin
/-- a call that has come and waits -/
theorem wt_of {m : Mc} (H : Hist m) (Q : QInv m) {i : Nat} {c : Cal} (hc : m.calls[i]? = some c) (ho : c.op = 120) (hp : 0 ≤ c.pt) (hf : c.fin = -1) : ∃ s : Nat, c.th = (s : Int) ∧ (m.tt s).wt = true ∧ (m.tt s).last = i ∧ m.lpt s = c.pt := by
  have hk := H.cal i c hc
  obtain ⟨h, p, e1, e2, e3⟩ := hk.cur hf
  obtain ⟨h', n, g1, g2, g3, _⟩ := Q.cur i c hc ho hp hf
  rw [e1] at g1
  injection g1 with g1
  subst g1
  obtain ⟨i', c', k1, k2, k3, k4, k5⟩ := H.thr c.th.toNat h p e1 e2
  have hii : i' = i := by omega
  subst hii
  rw [hc] at k2
  injection k2 with k2
  subst k2
  have hpa : p = .acq := p_acq (k5.symm.trans ho)
  subst hpa
  refine ⟨c.th.toNat, by have := hk.th.1; omega, ?_, ?_, ?_⟩
  · rw [tt_of e1]
    unfold Th.wt
    have hpl : h.pl = h.lk.at_ := by unfold Th.pl; rw [e2, g2]; rfl
    rw [hpl]
    show (aft h.lk).isSome = true
    rw [g3]
    rfl
  · rw [tt_of e1]
    exact e3
  · unfold Mc.lpt
    rw [tt_of e1, e3, show ((i' : Int)).toNat = i' from rfl, hc]
    rfl
theorem ev_234 {m : Mc} (S : Sx m) (hk : 2 ≤ m.kd ∧ m.kd ≤ 4) (v : Mo) : Ev m (m.move v).2 := by
  rcases S.ik with ⟨h, _⟩ | ⟨h, I⟩ | ⟨h, I⟩ | ⟨h, I⟩ | ⟨h, _⟩ | ⟨h, _⟩
  · omega
  · exact (i2_move S.g h I v).2
  · exact (i3_move S.g h I v).2
  · exact (i4_move S.g h S.t1 I v).2
  · omega
  · omega
theorem ev_6 {m : Mc} (S : Sx m) (hk : m.kd = 6) (v : Mo) : Ev6 m (m.move v).2 := by
  rcases S.ik with ⟨h, _⟩ | ⟨h, I⟩ | ⟨h, I⟩ | ⟨h, I⟩ | ⟨h, _⟩ | ⟨h, I⟩
  · omega
  · omega
  · omega
  · omega
  · omega
  · exact (i6_move S.g h S.t1 I v).2
theorem ff_move {m : Mc} (S : Sx m) (Q : QInv m) (F : FF m) (v : Mo) : FF (m.move v).2 := by
  have H := S.g.hist
  have hnn := H.nn
  have hE : (2 ≤ m.kd ∧ m.kd ≤ 4) → Ev m (m.move v).2 := fun h => ev_234 S h v
  have hE6 : m.kd = 6 → Ev6 m (m.move v).2 := fun h => ev_6 S h v
  have hmk := move_kind m v
  generalize (m.move v).2 = m' at hmk hE hE6 ⊢
  cases hmk with
  | full h => exact F
  | tick => exact F
  | begun t h p w ht hh hn hm =>
    have hold : ∀ (i : Nat) (c : Cal), (m.begun t h p w).calls[i]? = some c → m.calls[i]? = some c ∨ (c.pt = -1 ∧ c.fin = -1) := fun i c hc => by
      have hc' : (m.calls ++ [⟨w.th, w.op, w.arg, w.dat, m.moves, -1, -1, 0, 0⟩])[i]? = some c := hc
      by_cases hi : i < m.calls.length
      · rw [List.getElem?_append_left hi] at hc'
        exact Or.inl hc'
      · rw [List.getElem?_append_right (by omega)] at hc'
        have hi0 : i - m.calls.length = 0 := by
          have := (List.getElem?_eq_some_iff.1 hc').1
          simp at this
          omega
        rw [hi0] at hc'
        injection hc' with hc'
        subst hc'
        exact Or.inr ⟨rfl, rfl⟩
    intro i j x y hij hx hy h1 h2 h3 h4 h5
    rcases hold i x hx with hx' | hx'
    · rcases hold j y hy with hy' | hy'
      · exact F i j x y hij hx' hy' h1 h2 h3 h4 h5
      · exact absurd hy'.2 h4
    · omega
  | step t h p hh hp =>
    obtain ⟨i0, c0, e1, e2, e3, e4, e5⟩ := H.thr t h p hh hp
    have hln : h.last.toNat = i0 := by omega
    have hi0 : i0 < m.calls.length := (List.getElem?_eq_some_iff.1 e2).1
    have hg : m.calls[h.last.toNat]?.getD cal0 = c0 := by rw [hln, e2]; rfl
    have hcl : (m.step t h p).calls = m.calls.set i0 (bif (m.s2 t h p).over then { c0 with pt := (m.s2 t h p).d.pt, fin := m.moves, ak := (m.s2 t h p).d.ak, av := (m.s2 t h p).d.av } else { c0 with pt := (m.s2 t h p).d.pt }) := by rw [step_eq, hg, hln]
    have hpt := s2_pt m t h p
    rw [hg] at hpt
    have hlp := lpt_step H hh hp
    have hkd : (m.step t h p).kd = m.kd := by rw [step_eq]
    have hnew := tt_step_self (p := p) hh
    have hold : ∀ (i : Nat) (c : Cal), (m.step t h p).calls[i]? = some c → (i ≠ i0 ∧ m.calls[i]? = some c) ∨ (i = i0 ∧ c.op = c0.op ∧ c.beg = c0.beg ∧ c.pt = (m.s2 t h p).d.pt ∧ (((m.s2 t h p).over = true ∧ c.fin = m.moves) ∨ ((m.s2 t h p).over = false ∧ c.fin = -1))) := fun i c hc => by
      rw [hcl] at hc
      by_cases hi : i0 = i
      · subst hi
        rw [List.getElem?_set_self hi0] at hc
        injection hc with hc
        subst hc
        refine Or.inr ⟨rfl, ?_⟩
        cases (m.s2 t h p).over
        · exact ⟨rfl, rfl, rfl, Or.inr ⟨rfl, e4⟩⟩
        · exact ⟨rfl, rfl, rfl, Or.inl ⟨rfl, rfl⟩⟩
      · rw [List.getElem?_set_ne hi] at hc
        exact Or.inl ⟨fun e => hi e.symm, hc⟩
    intro i j x y hij hx hy h1 h2 h3 h4 h5
    rw [hkd] at h5
    rcases hold i x hx with ⟨a1, a2⟩ | ⟨a1, a2, a3, a4, a5⟩
    · rcases hold j y hy with ⟨b1, b2⟩ | ⟨b1, b2, b3, b4, b5⟩
      · exact F i j x y hij a2 b2 h1 h2 h3 h4 h5
      · -- y ends in this move
        have kx := H.cal i x a2
        have hov : (m.s2 t h p).over = true ∧ y.fin = m.moves := b5.resolve_right fun h9 => h4 h9.2
        by_cases hf : x.fin = -1
        · exfalso
          obtain ⟨s, s1, s2, s3, s4⟩ := wt_of H Q a2 h1 h2 hf
          have hpa : p = .acq := p_acq (by rw [← e5, ← b2]; exact h3)
          subst hpa
          have hst : s ≠ t := fun e => by
            subst e
            rw [tt_of hh] at s3
            omega
          have al0 : (m.tt t).alone = false := by rw [tt_of hh]; have gw := S.g.wf t; rw [tt_of hh] at gw; exact (gw.acq hp).1
          have al1 : ((m.step t h .acq).tt t).alone = true := by rw [hnew, (s2_acqa m t h).2.1]; exact hov.1
          rcases h5 with ⟨hk, h6⟩ | ⟨hk, h6⟩
          · have := hE hk t al1 al0 s hst s2
            rw [hlp.1, s4] at this
            omega
          · have := hE6 hk t al1 al0 s hst s2
            rw [hlp.2.1, s4] at this
            have hlb : m.lbeg t = c0.beg := by unfold Mc.lbeg; rw [tt_of hh, hg]
            omega
        · have := kx.fin
          exact ⟨hf, by omega⟩
    · rcases hold j y hy with ⟨b1, b2⟩ | ⟨b1, b2, b3, b4, b5⟩
      · have ky := H.cal j y b2
        have ky1 := ky.lt h4
        have ky2 := ky.fin
        have ky3 := ky.beg
        exfalso
        rcases hpt with hpt | hpt
        · have h9 := F i0 j c0 y (fun e => b1 e.symm) e2 b2 (a2.symm.trans h1) (by omega) h3 h4 (by
            rcases h5 with ⟨hk, h6⟩ | ⟨hk, h6⟩
            · exact Or.inl ⟨hk, by omega⟩
            · exact Or.inr ⟨hk, by omega⟩)
          exact h9.1 e4
        · rcases h5 with ⟨hk, h6⟩ | ⟨hk, h6⟩
          · omega
          · omega
      · omega
theorem ff_all {k T : Int} (hk : 1 ≤ k ∧ k ≤ 7) (hT : 1 ≤ T ∧ T ≤ 16) (ms : List Mo) : FF ((mc0 k T).moves_ ms) := by
  by_cases h5 : k = 5
  · intro i j x y _ _ _ _ _ _ _ h
    have hkd : ((mc0 k T).moves_ ms).kd = k := moves_kd _ _
    rw [hkd] at h
    unfold Fst at h
    omega
  have key : ∀ (l : List Mo) (m : Mc), Sx m → QInv m → m.kd = k → FF m → FF (m.moves_ l) := by
    intro l
    induction l with
    | nil => exact fun m _ _ _ F => F
    | cons v l ih =>
      intro m S Q hkd F
      have Q' : QInv (m.move v).2 := qinv_moves [v] S.g.hist Q (by rw [hkd]; exact hk) (by rw [hkd]; exact h5)
      exact ih (m.move v).2 (st_move S v) Q' ((kd_move m v).trans hkd) (ff_move S Q F v)
  exact key ms _ (st0 hk hT) (qinv0 k T) rfl fun i j x y _ h => by
    have h9 : ([] : List Cal)[i]? = some x := h
    cases h9
theorem first_all {k T : Int} (hk : 1 ≤ k ∧ k ≤ 7) (hT : 1 ≤ T ∧ T ≤ 16) (ms : List Mo) {i j : Nat} {x y : Cal} (hij : i ≠ j) (hx : ((mc0 k T).moves_ ms).calls[i]? = some x) (hy : ((mc0 k T).moves_ ms).calls[j]? = some y) (h1 : x.op = 120) (h2 : 0 ≤ x.pt) (h3 : y.op = 120) (h4 : 0 ≤ y.fin) (h : Fst k x y) : 0 ≤ x.fin ∧ x.fin ≤ y.fin := by
  have hkd : ((mc0 k T).moves_ ms).kd = k := moves_kd _ _
  have h9 := ff_all hk hT ms i j x y hij hx hy h1 h2 h3 (by omega) (by rw [hkd]; exact h)
  have := (hist_moves ms (hist0 k T)).cal i x hx
  have := this.fin
  omega
set_option maxRecDepth 100000 in
set_option maxHeartbeats 8000000 in
theorem law_first (T0 k0 : Int) (ms0 : List Mo) (A : Option Addr) (n c : Nat) (hl : ms0.length = n) (w : World) (h : Sl w w.heap.size 4 A n (moVals ms0)) (hn : n ≤ c ∧ c ≤ maxLen) (hA : n = 0 ∨ ∃ b o, A = some ⟨b, o, none⟩) (hop : ∀ v ∈ ms0, -9223372036854775808 ≤ v.op ∧ v.op ≤ 9223372036854775807) :
    Calls Try.prog 6 #[.agg #[.int .i64 T0, .int .i64 k0], .slice A n c] w (BoolR true w) := by
  obtain ⟨T, hT⟩ : ∃ T, T = fitT T0 k0 := ⟨_, rfl⟩
  obtain ⟨k, hk⟩ : ∃ k, k = fitK T0 k0 := ⟨_, rfl⟩
  have hrng := fit_range T0 k0
  rw [← hT, ← hk] at hrng
  have hF : Hid (∀ w, Calls Try.prog 23 #[.agg #[.int .i64 T0, .int .i64 k0], .slice A n c] w (fun e w' => e = .returned (.tuple #[.agg #[.int .i64 T, .int .i64 k], .slice A (min n 65536) c]) ∧ Below w.heap.size w w')) := fun w => by
    have h := fit_any T0 k0 A n c hA hn w
    unfold FitR at h
    rw [← hT, ← hk] at h
    exact h
  obtain ⟨N, hN⟩ : ∃ N, N = min n 65536 := ⟨_, rfl⟩
  rw [← hN] at hF
  obtain ⟨ms, hms⟩ : ∃ ms, ms = ms0.take N := ⟨_, rfl⟩
  have hmsl : ms.length = N := by rw [hms, List.length_take]; omega
  have hsl : Hid (∀ W, Below w.heap.size w W → Sl W W.heap.size 4 A N (moVals ms)) := fun W hW => by
    rw [hms]
    exact ((h.tak hl (by omega)).below hW).up hW.size
  have hkr : 1 ≤ k ∧ k ≤ 7 := range_kd hrng
  have hop2 : Hid (∀ v ∈ ms, -9223372036854775808 ≤ v.op ∧ v.op ≤ 9223372036854775807) := fun v hv => hop v (by rw [hms] at hv; exact List.mem_of_mem_take hv)
  have hN2 : N ≤ 65536 := by omega
  have hP : Hid (∀ W, Below w.heap.size w W → Calls Try.prog 24 #[.agg #[.int .i64 T, .int .i64 k], .slice A N c] W (PlayR ((mc0 k T).moves_ ms) W)) := fun W hW => play_fit hrng ms A N c hmsl W (hsl.out W hW) hN2 hop2.out
  clear h hop hA hn hT hk hN hms
  go_enter Try.func6, Try.ntmps6
  go_upto_region 1 with fail
  have hb0 : Below w.heap.size w (w.alloc (.cells #[.int .i64 T0, .int .i64 k0] 24)) := (Below.refl _ _).alloc (Nat.le_refl _) _
  have hr0 : Blk (w.alloc (.cells #[.int .i64 T0, .int .i64 k0] 24)) w.heap.size 24 [.int .i64 T0, .int .i64 k0] := Blk.new _ _ _
  generalize w.alloc (.cells #[.int .i64 T0, .int .i64 k0] 24) = w0 at hb0 hr0 ⊢
  have hrl := hr0.lt
  have d0 : w0.cell? ⟨w.heap.size, 0, none⟩ = some (.int .i64 T0) := hr0.cell rfl
  have d1 : w0.cell? ⟨w.heap.size, 1, none⟩ = some (.int .i64 k0) := hr0.cell rfl
  have HB0 := Lib.hid hb0
  have HR0 := Lib.hid hr0
  clear hb0 hr0
  go_wp2_with fail
  refine (hF.out _).mono ?_
  rintro e w1 ⟨rfl, hb1⟩
  have hr1 := HR0.out.below hb1 hrl
  have hl1 := hr1.lt
  have HB1 := Lib.hid (HB0.out.trans (hb1.mono (by omega)))
  have HR1 := Lib.hid hr1
  have d0 : w1.cell? ⟨w.heap.size, 0, none⟩ = some (.int .i64 T0) := hr1.cell rfl
  have d1 : w1.cell? ⟨w.heap.size, 1, none⟩ = some (.int .i64 k0) := hr1.cell rfl
  have f0 := hr1.frozen 0
  have f1 := hr1.frozen 1
  clear hb1 hr1
  go_upto_region 2 with fail
  have hb2 : Below w.heap.size w ((w1.setCell ⟨w.heap.size, 0, none⟩ (.int .i64 T)).setCell ⟨w.heap.size, 1, none⟩ (.int .i64 k)) := (HB1.out.setCell (p := ⟨w.heap.size, 0, none⟩) (Nat.le_refl _) _).setCell (p := ⟨w.heap.size, 1, none⟩) (Nat.le_refl _) _
  have hr2 : Blk ((w1.setCell ⟨w.heap.size, 0, none⟩ (.int .i64 T)).setCell ⟨w.heap.size, 1, none⟩ (.int .i64 k)) w.heap.size 24 [.int .i64 T, .int .i64 k] := (HR1.out.set_ 0 _).set_ 1 _
  generalize (w1.setCell ⟨w.heap.size, 0, none⟩ (.int .i64 T)).setCell ⟨w.heap.size, 1, none⟩ (.int .i64 k) = w2 at hb2 hr2 ⊢
  have hl2 := hr2.lt
  have d0 : w2.cell? ⟨w.heap.size, 0, none⟩ = some (.int .i64 T) := hr2.cell rfl
  have d1 : w2.cell? ⟨w.heap.size, 1, none⟩ = some (.int .i64 k) := hr2.cell rfl
  have HB2 := Lib.hid hb2
  have HR2 := Lib.hid hr2
  clear hb2 hr2
  go_wp2_with fail
  refine (hP.out w2 HB2.out).mono ?_
  obtain ⟨m, hm⟩ : ∃ m, m = (mc0 k T).moves_ ms := ⟨_, rfl⟩
  rw [← hm]
  have hbn := moves_bnd ms (mc0 k T)
  rw [← hm, hmsl] at hbn
  have hcl : m.calls.length ≤ 65536 := by have h9 : m.calls.length ≤ 0 + N := hbn.2.2.1; omega
  have hll : m.log.length ≤ 65536 := by have h9 : m.log.length ≤ 0 + N := hbn.2.1; omega
  have HM := Lib.hid hm
  clear hm hbn
  rintro e w3 ⟨Ac, kc, At, kt, Aw, kw, rfl, o1, o2, o3, hb3⟩
  have hr3 := HR2.out.below hb3 hl2
  have hl3 := hr3.lt
  have HB3 := Lib.hid (HB2.out.trans (hb3.mono (by omega)))
  have HR3 := Lib.hid hr3
  have HO1 := Lib.hid o1
  have HO2 := Lib.hid o2
  have hz3 := hb3.size
  clear hb3 hr3 o1 o2 o3
  go_upto_region 3 with fail
  have hb4 : Below w3.heap.size w3 (w3.alloc (.cells #[.slice Ac m.calls.length kc, .slice At m.log.length kt, .slice none 0 0, .slice Aw m.words.length kw] 39)) := (Below.refl _ _).alloc (Nat.le_refl _) _
  have hq4 : Blk (w3.alloc (.cells #[.slice Ac m.calls.length kc, .slice At m.log.length kt, .slice none 0 0, .slice Aw m.words.length kw] 39)) w3.heap.size 39 [.slice Ac m.calls.length kc, .slice At m.log.length kt, .slice none 0 0, .slice Aw m.words.length kw] := Blk.new _ _ _
  generalize w3.alloc (.cells #[.slice Ac m.calls.length kc, .slice At m.log.length kt, .slice none 0 0, .slice Aw m.words.length kw] 39) = w4 at hb4 hq4 ⊢
  have hr4 := HR3.out.below hb4 hl3
  have hl4 := hr4.lt
  have hm4 := hq4.lt
  have HB4 := Lib.hid (HB3.out.trans (hb4.mono (by omega)))
  have HR4 := Lib.hid hr4
  have HQ4 := Lib.hid hq4
  have HO14 := Lib.hid (HO1.out.below hb4)
  have HO24 := Lib.hid (HO2.out.below hb4)
  clear hb4 hr4 hq4
  go_wp2_with fail
  refine (awake_any _).mono ?_
  rintro e w5 ⟨rfl, hb5⟩
  have hr5 := HR4.out.below hb5 hl4
  have hq5 := HQ4.out.below hb5 hm4
  have hl5 := hr5.lt
  have hm5 := hq5.lt
  have HB5 := Lib.hid (HB4.out.trans (hb5.mono (by omega)))
  have HR5 := Lib.hid hr5
  have HQ5 := Lib.hid hq5
  have HO15 := Lib.hid (HO14.out.below hb5)
  have HO25 := Lib.hid (HO24.out.below hb5)
  have d1 : w5.cell? ⟨w.heap.size, 1, none⟩ = some (.int .i64 k) := hr5.cell rfl
  have r0 : w5.cell? ⟨w3.heap.size, 0, none⟩ = some (.slice Ac m.calls.length kc) := hq5.cell rfl
  have r1 : w5.cell? ⟨w3.heap.size, 1, none⟩ = some (.slice At m.log.length kt) := hq5.cell rfl
  clear hb5 hr5 hq5 HB0 HB1 HB2 HB3 HB4 HR0 HR1 HR2 HR3 HR4 HQ4 HO1 HO2 HO14 HO24
  have hrT : 1 ≤ T ∧ T ≤ 16 := by unfold rangeB at hrng; simp at hrng; omega
  go_wp2_with fail
  go_loopg [36] m.calls.length (fun gk i wr => ∃ (j : Nat), j + gk = m.calls.length ∧ i = .int .i64 j ∧ Hid (Below w5.heap.size w5 wr))
  case atStart => exact ⟨0, by omega, rfl, Below.refl _ _⟩
  case round =>
    obtain ⟨j, hj, rfl, hB⟩ := hrel
    have hzr := hB.out.size
    have hqr := HQ5.out.below hB.out hm5
    have r0 : wr.cell? ⟨w3.heap.size, 0, none⟩ = some (.slice Ac m.calls.length kc) := hqr.cell rfl
    have hlq := hqr.lt
    clear hqr
    by_cases hlt : j < m.calls.length
    · obtain ⟨x, hx⟩ := at_lt hlt
      have e1 : (j : Int) < m.calls.length := by omega
      have e0 : (0 : Int) ≤ j := by omega
      obtain ⟨b, f, hA, hbl, hcell⟩ := ((Sl.of_own HO15.out).below hB.out).2 (by omega)
      have v0 : wr.cell? ⟨b, f + j * 9, none⟩ = some (.int .i64 x.th) := by have := hcell (j * 9 + 0) _ (calVals_get hx 0 (by omega)); simpa using this
      have v1 : wr.cell? ⟨b, f + j * 9 + 1, none⟩ = some (.int .i64 x.op) := by have := hcell (j * 9 + 1) _ (calVals_get hx 1 (by omega)); rw [← Nat.add_assoc] at this; exact this
      have v2 : wr.cell? ⟨b, f + j * 9 + 2, none⟩ = some (.int .i64 x.arg) := by have := hcell (j * 9 + 2) _ (calVals_get hx 2 (by omega)); rw [← Nat.add_assoc] at this; exact this
      have v3 : wr.cell? ⟨b, f + j * 9 + 3, none⟩ = some (.int .i64 x.dat) := by have := hcell (j * 9 + 3) _ (calVals_get hx 3 (by omega)); rw [← Nat.add_assoc] at this; exact this
      have v4 : wr.cell? ⟨b, f + j * 9 + 4, none⟩ = some (.int .i64 x.beg) := by have := hcell (j * 9 + 4) _ (calVals_get hx 4 (by omega)); rw [← Nat.add_assoc] at this; exact this
      have v5 : wr.cell? ⟨b, f + j * 9 + 5, none⟩ = some (.int .i64 x.fin) := by have := hcell (j * 9 + 5) _ (calVals_get hx 5 (by omega)); rw [← Nat.add_assoc] at this; exact this
      have v6 : wr.cell? ⟨b, f + j * 9 + 6, none⟩ = some (.int .i64 x.pt) := by have := hcell (j * 9 + 6) _ (calVals_get hx 6 (by omega)); rw [← Nat.add_assoc] at this; exact this
      have v7 : wr.cell? ⟨b, f + j * 9 + 7, none⟩ = some (.int .i64 x.ak) := by have := hcell (j * 9 + 7) _ (calVals_get hx 7 (by omega)); rw [← Nat.add_assoc] at this; exact this
      have v8 : wr.cell? ⟨b, f + j * 9 + 8, none⟩ = some (.int .i64 x.av) := by have := hcell (j * 9 + 8) _ (calVals_get hx 8 (by omega)); rw [← Nat.add_assoc] at this; exact this
      have HX := Lib.hid hx
      subst hA
      have hbe : b < wr.heap.size := by omega
      clear hcell hx
      by_cases ho : x.op = 120
      · have g1 : (x.op != 120) = false := by simp [ho]
        by_cases hp : x.pt < 0
        · have g2 : decide (x.pt < 0) = true := decide_eq_true hp
          go_wp2_with fail
          go_roundg (gk - 1)
          case measure => omega
          case rel => exact ⟨j + 1, by omega, by go_num, hB.out.alloc hzr _⟩
        · have g2 : decide (x.pt < 0) = false := decide_eq_false hp
          have HO := Lib.hid ho
          have HP := Lib.hid hp
          go_upto_region 10 with fail
          have hb6 : Below w5.heap.size w5 (wr.alloc (.cells #[.int .i64 x.th, .int .i64 120, .int .i64 x.arg, .int .i64 x.dat, .int .i64 x.beg, .int .i64 x.fin, .int .i64 x.pt, .int .i64 x.ak, .int .i64 x.av] 62)) := hB.out.alloc hzr _
          have hx6 : Blk (wr.alloc (.cells #[.int .i64 x.th, .int .i64 120, .int .i64 x.arg, .int .i64 x.dat, .int .i64 x.beg, .int .i64 x.fin, .int .i64 x.pt, .int .i64 x.ak, .int .i64 x.av] 62)) wr.heap.size 62 [.int .i64 x.th, .int .i64 120, .int .i64 x.arg, .int .i64 x.dat, .int .i64 x.beg, .int .i64 x.fin, .int .i64 x.pt, .int .i64 x.ak, .int .i64 x.av] := Blk.new _ _ _
          generalize wr.alloc (.cells #[.int .i64 x.th, .int .i64 120, .int .i64 x.arg, .int .i64 x.dat, .int .i64 x.beg, .int .i64 x.fin, .int .i64 x.pt, .int .i64 x.ak, .int .i64 x.av] 62) = w6 at hb6 hx6 ⊢
          have hz6 := hb6.size
          have hx6l := hx6.lt
          have HB6 := Lib.hid hb6
          have HX6 := Lib.hid hx6
          have hq6 := HQ5.out.below hb6 hm5
          have r0 : w6.cell? ⟨w3.heap.size, 0, none⟩ = some (.slice (some ⟨b, f, none⟩) m.calls.length kc) := hq6.cell rfl
          clear hb6 hx6 hq6 v0 v1 v2 v3 v4 v5 v6 v7 v8
          go_wp2_with fail
          obtain ⟨wo, rfl⟩ : ∃ wo : World, wo = wr := ⟨_, rfl⟩
          obtain ⟨go, rfl⟩ : ∃ go : Nat, go = gk := ⟨_, rfl⟩
          go_loopg [52] m.calls.length (fun g2 i wq => ∃ q : Nat, q + g2 = m.calls.length ∧ i = .int .i64 q ∧ Hid (Below w6.heap.size w6 wq))
          case atStart => exact ⟨0, by omega, rfl, Below.refl _ _⟩
          case round =>
            obtain ⟨q, hq, rfl, hBq⟩ := hrel
            have hzq := hBq.out.size
            have hb9 : Below w5.heap.size w5 wr := HB6.out.trans (hBq.out.mono (by omega))
            have hxq := HX6.out.below hBq.out hx6l
            have k4 : wr.cell? ⟨wo.heap.size, 4, none⟩ = some (.int .i64 x.beg) := hxq.cell rfl
            have k5 : wr.cell? ⟨wo.heap.size, 5, none⟩ = some (.int .i64 x.fin) := hxq.cell rfl
            have k6 : wr.cell? ⟨wo.heap.size, 6, none⟩ = some (.int .i64 x.pt) := hxq.cell rfl
            have hxl := hxq.lt
            clear hxq
            by_cases hlt2 : q < m.calls.length
            · obtain ⟨y, hy⟩ := at_lt hlt2
              have f1 : (q : Int) < m.calls.length := by omega
              have f0 : (0 : Int) ≤ q := by omega
              obtain ⟨b2, o2, hA2, hbl2, hcell2⟩ := ((Sl.of_own HO15.out).below hb9).2 (by omega)
              injection hA2 with hA2
              injection hA2 with hA2 hA3
              subst hA2 hA3
              have u0 : wr.cell? ⟨b, f + q * 9, none⟩ = some (.int .i64 y.th) := by have := hcell2 (q * 9 + 0) _ (calVals_get hy 0 (by omega)); simpa using this
              have u1 : wr.cell? ⟨b, f + q * 9 + 1, none⟩ = some (.int .i64 y.op) := by have := hcell2 (q * 9 + 1) _ (calVals_get hy 1 (by omega)); rw [← Nat.add_assoc] at this; exact this
              have u2 : wr.cell? ⟨b, f + q * 9 + 2, none⟩ = some (.int .i64 y.arg) := by have := hcell2 (q * 9 + 2) _ (calVals_get hy 2 (by omega)); rw [← Nat.add_assoc] at this; exact this
              have u3 : wr.cell? ⟨b, f + q * 9 + 3, none⟩ = some (.int .i64 y.dat) := by have := hcell2 (q * 9 + 3) _ (calVals_get hy 3 (by omega)); rw [← Nat.add_assoc] at this; exact this
              have u4 : wr.cell? ⟨b, f + q * 9 + 4, none⟩ = some (.int .i64 y.beg) := by have := hcell2 (q * 9 + 4) _ (calVals_get hy 4 (by omega)); rw [← Nat.add_assoc] at this; exact this
              have u5 : wr.cell? ⟨b, f + q * 9 + 5, none⟩ = some (.int .i64 y.fin) := by have := hcell2 (q * 9 + 5) _ (calVals_get hy 5 (by omega)); rw [← Nat.add_assoc] at this; exact this
              have u6 : wr.cell? ⟨b, f + q * 9 + 6, none⟩ = some (.int .i64 y.pt) := by have := hcell2 (q * 9 + 6) _ (calVals_get hy 6 (by omega)); rw [← Nat.add_assoc] at this; exact this
              have u7 : wr.cell? ⟨b, f + q * 9 + 7, none⟩ = some (.int .i64 y.ak) := by have := hcell2 (q * 9 + 7) _ (calVals_get hy 7 (by omega)); rw [← Nat.add_assoc] at this; exact this
              have u8 : wr.cell? ⟨b, f + q * 9 + 8, none⟩ = some (.int .i64 y.av) := by have := hcell2 (q * 9 + 8) _ (calVals_get hy 8 (by omega)); rw [← Nat.add_assoc] at this; exact this
              have HY := Lib.hid hy
              have hbe2 : b < wr.heap.size := by omega
              clear hcell2 hy
              -- the law
              have hL : Hid (j ≠ q → y.op = 120 → 0 ≤ y.fin → Fst k x y → 0 ≤ x.fin ∧ x.fin ≤ y.fin) := fun h1 h2 h3 h4 => first_all (T := T) hkr hrT ms h1 (by rw [← HM.out]; exact HX.out) (by rw [← HM.out]; exact HY.out) HO.out (by have := HP.out; omega) h2 h3 h4
              by_cases n1 : j ≠ q
              · have g3 : ((j : Int) == (q : Int)) = false := by rw [beq_eq_false_iff_ne]; omega
                have g3' : (j == q) = false := by simpa using n1
                by_cases n2 : y.op = 120
                · have g4 : (y.op != 120) = false := by simp [n2]
                  by_cases n3 : y.fin < 0
                  · have g5 : (decide (y.fin < 0)) = true := decide_eq_true n3
                    clear n1 n2 n3
                    go_wp2_with fail
                    go_roundg (gk - 1)
                    case measure => omega
                    case rel => exact ⟨q + 1, by omega, by go_num, hBq.out.alloc hzq _⟩
                  · have g5 : (decide (y.fin < 0)) = false := decide_eq_false n3
                    by_cases m1 : 2 ≤ k
                    · have a1 : (decide (2 ≤ k)) = true := decide_eq_true m1
                      by_cases m2 : k ≤ 4
                      · have a2 : (decide (k ≤ 4)) = true := decide_eq_true m2
                        by_cases p1 : x.pt < y.pt
                        · have c1 : (decide (x.pt < y.pt)) = true := decide_eq_true p1
                          obtain ⟨z1, z2⟩ := hL.out (by assumption) (by assumption) (by omega) (Or.inl ⟨⟨by assumption, by assumption⟩, p1⟩)
                          have z3 : decide (x.fin < 0) = false := decide_eq_false (by omega)
                          have z4 : decide (y.fin < x.fin) = false := decide_eq_false (by omega)
                          have c6 : (k == 6) = false := by simp; omega
                          clear n1 n2 n3 m1 m2 p1 z1 z2
                          go_wp2_with fail
                          go_roundg (gk - 1)
                          case measure => omega
                          case rel => exact ⟨q + 1, by omega, by go_num, hBq.out.alloc hzq _⟩
                        · have c1 : (decide (x.pt < y.pt)) = false := decide_eq_false p1
                          have c6 : (k == 6) = false := by simp; omega
                          clear n1 n2 n3 m1 m2 p1
                          go_wp2_with fail
                          go_roundg (gk - 1)
                          case measure => omega
                          case rel => exact ⟨q + 1, by omega, by go_num, hBq.out.alloc hzq _⟩
                      · have a2 : (decide (k ≤ 4)) = false := decide_eq_false m2
                        by_cases m3 : k = 6
                        · have c6 : (k == 6) = true := by simp [m3]
                          by_cases p2 : x.pt < y.beg
                          · have c2 : (decide (x.pt < y.beg)) = true := decide_eq_true p2
                            obtain ⟨z1, z2⟩ := hL.out (by assumption) (by assumption) (by omega) (Or.inr ⟨m3, p2⟩)
                            have z3 : decide (x.fin < 0) = false := decide_eq_false (by omega)
                            have z4 : decide (y.fin < x.fin) = false := decide_eq_false (by omega)
                            clear n1 n2 n3 m1 m2 m3 p2 z1 z2
                            go_wp2_with fail
                            go_roundg (gk - 1)
                            case measure => omega
                            case rel => exact ⟨q + 1, by omega, by go_num, hBq.out.alloc hzq _⟩
                          · have c2 : (decide (x.pt < y.beg)) = false := decide_eq_false p2
                            clear n1 n2 n3 m1 m2 m3 p2
                            go_wp2_with fail
                            go_roundg (gk - 1)
                            case measure => omega
                            case rel => exact ⟨q + 1, by omega, by go_num, hBq.out.alloc hzq _⟩
                        · have c6 : (k == 6) = false := by simp [m3]
                          clear n1 n2 n3 m1 m2 m3
                          go_wp2_with fail
                          go_roundg (gk - 1)
                          case measure => omega
                          case rel => exact ⟨q + 1, by omega, by go_num, hBq.out.alloc hzq _⟩
                    · have a1 : (decide (2 ≤ k)) = false := decide_eq_false m1
                      have c6 : (k == 6) = false := by simp; omega
                      clear n1 n2 n3 m1
                      go_wp2_with fail
                      go_roundg (gk - 1)
                      case measure => omega
                      case rel => exact ⟨q + 1, by omega, by go_num, hBq.out.alloc hzq _⟩
                · have g4 : (y.op != 120) = true := by simp [n2]
                  clear n1 n2
                  go_wp2_with fail
                  go_roundg (gk - 1)
                  case measure => omega
                  case rel => exact ⟨q + 1, by omega, by go_num, hBq.out.alloc hzq _⟩
              · have g3 : ((j : Int) == (q : Int)) = true := by rw [beq_iff_eq]; omega
                have g3' : (j == q) = true := by simpa using n1
                clear n1
                go_wp2_with fail
                go_roundg (gk - 1)
                case measure => omega
                case rel => exact ⟨q + 1, by omega, by go_num, hBq.out.alloc hzq _⟩
            · obtain rfl : q = m.calls.length := by omega
              go_wp2_with fail
              go_roundg (go - 1)
              case measure => omega
              case rel => exact ⟨j + 1, by omega, by go_num, hb9⟩
      · have g1 : (x.op != 120) = true := by simp [ho]
        go_wp2_with fail
        go_roundg (gk - 1)
        case measure => omega
        case rel => exact ⟨j + 1, by omega, by go_num, hB.out.alloc hzr _⟩
    · obtain rfl : j = m.calls.length := by omega
      go_wp2_with fail
      go_ret
      exact ⟨rfl, HB5.out.trans (hB.out.mono (by omega))⟩
end Go.Proofs.Ytjnmlgfkiebkgaa
