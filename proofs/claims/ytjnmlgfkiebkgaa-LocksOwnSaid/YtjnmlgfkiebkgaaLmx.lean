/-
  machine.Move: calls begin.
-/
import Derived.Test.YtjnmlgfkiebkgaaLmv
namespace Go.Proofs.Ytjnmlgfkiebkgaa
open Go.RowKit
set_option linter.unusedVariables false
set_option linter.unusedSimpArgs false
section
variable {W : World} {B : Nat} {M : ML} {m : Mc} {t : Nat} {h : Th} {p : Tp}
set_option maxRecDepth 100000 in
set_option maxHeartbeats 4000000 in
theorem move120_2 (H : MM W B M m) (hlog : m.log.length ≤ m.moves) (hcl : m.calls.length ≤ m.moves) (hm : m.moves < 65536) (hh : m.ths[t]? = some h) (hp : h.task = none) (hal : h.alone = false) (hsh : h.shares = false) (varg vdat : Int) :
    Calls Try.prog 29 #[.pointer (some ⟨M.x, 0, none⟩), .agg #[.int .i64 t, .int .i64 120, .int .i64 varg, .int .i64 vdat]] W (MvR B M W (true, m.begun t h .acq ⟨t, 120, varg, vdat⟩)) := by
  have hn0 : ((m.ths.length : Int) == 0) = false := beq_eq_false_iff_ne.2 (by have := H.nt.1; omega)
  have hm0 : (0 : Int) ≤ m.moves := by omega
  have hsW : B ≤ W.heap.size := by obtain ⟨_, _, _, hx⟩ := H.xb; exact Nat.le_trans H.bx (Nat.le_of_lt hx.lt)
  obtain ⟨th0, now0, us0, hx⟩ := H.xb
  have x8 : W.cell? ⟨M.x, 8, none⟩ = some (.slice (some ⟨M.sg, 0, none⟩) m.ths.length M.sk) := hx.cell rfl
  have x9 : W.cell? ⟨M.x, 9, none⟩ = some (.int .i64 m.moves) := hx.cell rfl
  have f9 := hx.frozen 9
  have lx := hx.lt
  have HB := Lib.hid H.bx
  have hnm := H.nm.2.1
  have hmv : decide ((65536 : Int) ≤ m.moves) = false := by simp; omega
  have H2 := (H.tick (by omega)).on (W' := (W.setCell ⟨M.x, 9, none⟩ (.int .i64 (m.moves + 1))).alloc (.cells #[.int .i64 t, .int .i64 120, .int .i64 varg, .int .i64 vdat] 78)) ((Below.refl _ _).alloc (Nat.le_refl _) _)
  have hB2 : Bk B W ((W.setCell ⟨M.x, 9, none⟩ (.int .i64 (m.moves + 1))).alloc (.cells #[.int .i64 t, .int .i64 120, .int .i64 varg, .int .i64 vdat] 78)) := ((Bk.refl _ _).setCell (p := ⟨M.x, 9, none⟩) H.bx hx rfl _).alloc (by simpa using hsW) _
  have hk2 : Blk ((W.setCell ⟨M.x, 9, none⟩ (.int .i64 (m.moves + 1))).alloc (.cells #[.int .i64 t, .int .i64 120, .int .i64 varg, .int .i64 vdat] 78)) W.heap.size 78 [.int .i64 t, .int .i64 120, .int .i64 varg, .int .i64 vdat] := by
    have := Blk.new (W.setCell ⟨M.x, 9, none⟩ (.int .i64 (m.moves + 1))) 78 [.int .i64 t, .int .i64 120, .int .i64 varg, .int .i64 vdat]
    have hz : (W.setCell ⟨M.x, 9, none⟩ (.int .i64 (m.moves + 1))).heap.size = W.heap.size := by simp
    rw [hz] at this
    exact this
  clear H hx
  go_enter Try.func29, Try.ntmps29
  go_upto_region 5 with fail
  generalize (W.setCell ⟨M.x, 9, none⟩ (.int .i64 (m.moves + 1))).alloc (.cells #[.int .i64 t, .int .i64 120, .int .i64 varg, .int .i64 vdat] 78) = W2 at H2 hB2 hk2 ⊢
  clear x8 x9 f9 lx
  obtain ⟨th1, now1, us1, hx⟩ := H2.xb
  have x8 : W2.cell? ⟨M.x, 8, none⟩ = some (.slice (some ⟨M.sg, 0, none⟩) m.ths.length M.sk) := hx.cell rfl
  have x7 : W2.cell? ⟨M.x, 7, none⟩ = some (.map (some M.kb)) := hx.cell rfl
  have x10 : W2.cell? ⟨M.x, 10, none⟩ = some M.vc := hx.cell rfl
  have fx10 := hx.frozen 10
  have b0 : W2.cell? ⟨W.heap.size, 0, none⟩ = some (.int .i64 t) := hk2.cell rfl
  have b1 : W2.cell? ⟨W.heap.size, 1, none⟩ = some (.int .i64 120) := hk2.cell rfl
  have b2 : W2.cell? ⟨W.heap.size, 2, none⟩ = some (.int .i64 varg) := hk2.cell rfl
  have b3 : W2.cell? ⟨W.heap.size, 3, none⟩ = some (.int .i64 vdat) := hk2.cell rfl
  have lx := hx.lt
  have lb := hk2.lt
  have ls := H2.se.lt
  have HX := Lib.hid hx
  have HBk := Lib.hid hk2
  have HB2 := Lib.hid hB2
  have s0 : W2.cell? ⟨M.sg, t * 5, none⟩ = some .nilIface := H2.se.cell (by
    have := thVals_get (M := M) 0 hh 0 (by omega)
    rw [show t * 5 + 0 = t * 5 from rfl] at this
    rw [this]
    show some (tkV M (0 + t) h.task) = _
    rw [hp]
    skip
    rfl)
  have htn : t < m.ths.length := (List.getElem?_eq_some_iff.1 hh).1
  have ntn : (t : Int) < m.ths.length := by omega
  have nt0 : (0 : Int) ≤ t := by omega
  have dt0 : decide ((t : Int) < 0) = false := by simp
  have dtn : decide ((m.ths.length : Int) ≤ t) = false := by simp; omega
  have HM2 := Lib.hid H2
  clear H2 hx hk2 hB2
  obtain ⟨ic, hic, hicz, hics, hicb⟩ := info_parts info_cal
  obtain ⟨Ac, kc, hvc, hk1, hk2⟩ := own_form HM2.out.ca
  dsimp only at hk1 hvc
  obtain ⟨ko, hko, hkk⟩ := HM2.out.kit
  have hl := kit_look hkk (W := W2.drew.drew.drew) hko 120 (by decide)
  rw [show kitF M.cv M.sv 120 = .func (.func 44) #[] #[.pointer (some ⟨M.sv, 0, none⟩)] from rfl] at hl
  have nF := funF_eq (.func 44) #[] #[.pointer (some ⟨M.sv, 0, none⟩)]
  go_region
  all_goals (
    go_upto_region 7 with fail
    go_region
    all_goals (
      go_upto_region 15 with fail
      go_region
      all_goals (
        go_wp2_with fail
        refine (mk120_2 HM2.out.drew.drew.drew hh hal hsh ⟨t, 120, varg, vdat⟩).mono ?_
        rintro e w3 ⟨g, rfl, hg3, hg4, hb3⟩
        have hM3 := HM2.out.drew.drew.drew.on hb3
        have hB3 := HB2.out.drew.drew.drew.after hb3 (Nat.le_trans hsW HB2.out.size)
        obtain ⟨th3, now3, us3, hx3⟩ := hM3.xb
        have y10 : w3.cell? ⟨M.x, 10, none⟩ = some (.slice Ac m.calls.length kc) := by have := hx3.cell (i := 10) rfl; rw [← hvc]; exact this
        have bk3 := HBk.out.drew.drew.drew.below hb3 HBk.out.lt
        have c0 : w3.cell? ⟨W.heap.size, 0, none⟩ = some (.int .i64 t) := bk3.cell rfl
        have c1 : w3.cell? ⟨W.heap.size, 1, none⟩ = some (.int .i64 120) := bk3.cell rfl
        have c2 : w3.cell? ⟨W.heap.size, 2, none⟩ = some (.int .i64 varg) := bk3.cell rfl
        have c3 : w3.cell? ⟨W.heap.size, 3, none⟩ = some (.int .i64 vdat) := bk3.cell rfl
        have e0 := thVals_get (M := M) 0 hh 0 (by omega)
        have e1 := thVals_get (M := M) 0 hh 1 (by omega)
        have e2 := thVals_get (M := M) 0 hh 2 (by omega)
        have e3 := thVals_get (M := M) 0 hh 3 (by omega)
        have e4 := thVals_get (M := M) 0 hh 4 (by omega)
        have u0 : w3.cell? ⟨M.sg, t * 5, none⟩ = some (tkV M (0 + t) h.task) := hM3.se.cell e0
        have u1 : w3.cell? ⟨M.sg, t * 5 + 1, none⟩ = some (.bool h.ready) := hM3.se.cell e1
        have u2 : w3.cell? ⟨M.sg, t * 5 + 2, none⟩ = some (.int .i64 h.last) := hM3.se.cell e2
        have u3 : w3.cell? ⟨M.sg, t * 5 + 3, none⟩ = some (.int .i64 h.ak) := hM3.se.cell e3
        have u4 : w3.cell? ⟨M.sg, t * 5 + 4, none⟩ = some (.int .i64 h.av) := hM3.se.cell e4
        have v0 := hM3.se.frozen (t * 5)
        have v1 := hM3.se.frozen (t * 5 + 1)
        have v2 := hM3.se.frozen (t * 5 + 2)
        have v3 := hM3.se.frozen (t * 5 + 3)
        have v4 := hM3.se.frozen (t * 5 + 4)
        have nx := hM3.se.blk_ne hx3 (by decide)
        have nb := hM3.se.blk_ne bk3 (by decide)
        have HM3 := Lib.hid hM3
        have HB3 := Lib.hid hB3
        have HX3 := Lib.hid hx3
        have HG3 := Lib.hid hg3
        have HK3 := Lib.hid bk3
        have HN3 := Lib.hid (show ∀ (i : Nat) (h' : Th) (p' : Tp), m.ths[i]? = some h' → h'.task = some p' → M.tb i ≠ g from fun i h' p' h1 h2 e => by have := (HM2.out.tk i h' p' h1 h2).1.lt; rw [e] at this; have h5 : W2.heap.size ≤ g := hg4; omega)
        clear hM3 hB3 hx3 hg3 bk3 hb3 e0 e1 e2 e3 e4
        go_upto_region 22 with fail
        have bk4 : Blk (((((w3.setCell ⟨M.sg, t * 5, none⟩ (.iface (tkP .acq) (.pointer (some ⟨g, 0, none⟩)))).setCell ⟨M.sg, t * 5 + 1, none⟩ (.bool false)).setCell ⟨M.sg, t * 5 + 2, none⟩ (.int .i64 m.calls.length)).setCell ⟨M.sg, t * 5 + 3, none⟩ (.int .i64 1)).setCell ⟨M.sg, t * 5 + 4, none⟩ (.int .i64 0)) W.heap.size 78 [.int .i64 t, .int .i64 120, .int .i64 varg, .int .i64 vdat] := ((((HK3.out.far nb.symm _).far nb.symm _).far nb.symm _).far nb.symm _).far nb.symm _
        have hx4 : Blk (((((w3.setCell ⟨M.sg, t * 5, none⟩ (.iface (tkP .acq) (.pointer (some ⟨g, 0, none⟩)))).setCell ⟨M.sg, t * 5 + 1, none⟩ (.bool false)).setCell ⟨M.sg, t * 5 + 2, none⟩ (.int .i64 m.calls.length)).setCell ⟨M.sg, t * 5 + 3, none⟩ (.int .i64 1)).setCell ⟨M.sg, t * 5 + 4, none⟩ (.int .i64 0)) M.x 126 [.pointer (some ⟨M.y, 0, none⟩), .int .i64 th3, .int .i64 now3, .pointer none, .pointer none, .bool us3, .slice none 0 0, .map (some M.kb), .slice (some ⟨M.sg, 0, none⟩) m.ths.length M.sk, .int .i64 (m.moves + 1), M.vc] := ((((HX3.out.far nx.symm _).far nx.symm _).far nx.symm _).far nx.symm _).far nx.symm _
        have ho4 : (((((w3.setCell ⟨M.sg, t * 5, none⟩ (.iface (tkP .acq) (.pointer (some ⟨g, 0, none⟩)))).setCell ⟨M.sg, t * 5 + 1, none⟩ (.bool false)).setCell ⟨M.sg, t * 5 + 2, none⟩ (.int .i64 m.calls.length)).setCell ⟨M.sg, t * 5 + 3, none⟩ (.int .i64 1)).setCell ⟨M.sg, t * 5 + 4, none⟩ (.int .i64 0)).ownsRow B 62 9 (.slice Ac m.calls.length kc) m.calls.length (calVals m.calls) := by
          have hca := HM3.out.ca
          have hne := own_rw_ne hca HM3.out.se (by decide)
          have := own_setf (own_setf (own_setf (own_setf (own_setf hca (p := ⟨M.sg, t * 5, none⟩) hne (.iface (tkP .acq) (.pointer (some ⟨g, 0, none⟩)))) (p := ⟨M.sg, t * 5 + 1, none⟩) hne (.bool false)) (p := ⟨M.sg, t * 5 + 2, none⟩) hne (.int .i64 m.calls.length)) (p := ⟨M.sg, t * 5 + 3, none⟩) hne (.int .i64 1)) (p := ⟨M.sg, t * 5 + 4, none⟩) hne (.int .i64 0)
          dsimp only at this
          rw [hvc] at this
          exact this
        have hB4 : Bk B W (((((w3.setCell ⟨M.sg, t * 5, none⟩ (.iface (tkP .acq) (.pointer (some ⟨g, 0, none⟩)))).setCell ⟨M.sg, t * 5 + 1, none⟩ (.bool false)).setCell ⟨M.sg, t * 5 + 2, none⟩ (.int .i64 m.calls.length)).setCell ⟨M.sg, t * 5 + 3, none⟩ (.int .i64 1)).setCell ⟨M.sg, t * 5 + 4, none⟩ (.int .i64 0)) := HB3.out.seat5 HM3.out.bs HM3.out.se rfl _ _ _ _ _
        have hnx : some M.x ≠ (Value.slice Ac m.calls.length kc).ownBlock := own_blk_ne ho4 hx4 (by decide)
        generalize hw4 : (((((w3.setCell ⟨M.sg, t * 5, none⟩ (.iface (tkP .acq) (.pointer (some ⟨g, 0, none⟩)))).setCell ⟨M.sg, t * 5 + 1, none⟩ (.bool false)).setCell ⟨M.sg, t * 5 + 2, none⟩ (.int .i64 m.calls.length)).setCell ⟨M.sg, t * 5 + 3, none⟩ (.int .i64 1)).setCell ⟨M.sg, t * 5 + 4, none⟩ (.int .i64 0)) = w4 at bk4 hx4 ho4 hB4 ⊢
        clear c0 c1 c2 c3 u0 u1 u2 u3 u4 v0 v1 v2 v3 v4 nx nb y10
        have c0 : w4.cell? ⟨W.heap.size, 0, none⟩ = some (.int .i64 t) := bk4.cell rfl
        have c1 : w4.cell? ⟨W.heap.size, 1, none⟩ = some (.int .i64 120) := bk4.cell rfl
        have c2 : w4.cell? ⟨W.heap.size, 2, none⟩ = some (.int .i64 varg) := bk4.cell rfl
        have c3 : w4.cell? ⟨W.heap.size, 3, none⟩ = some (.int .i64 vdat) := bk4.cell rfl
        have y10 : w4.cell? ⟨M.x, 10, none⟩ = some (.slice Ac m.calls.length kc) := by have := hx4.cell (i := 10) rfl; rw [← hvc]; exact this
        have l4 := hx4.lt
        have l5 := bk4.lt
        have hsz4 : B ≤ w4.heap.size := Nat.le_trans hsW hB4.size
        have hc9 : m.calls.length ≤ 65536 := by have := HM3.out.nm.2.2; dsimp only at this; omega
        have hc8 : m.calls.length ≤ m.moves := hcl
        have HO4 : Hid (w4.drew.ownsRow B 62 9 (.slice Ac m.calls.length kc) m.calls.length (calVals m.calls)) := ho4
        have HX4 : Hid (Blk w4.drew M.x 126 _) := hx4
        have HB4 := Lib.hid hB4
        have HNX := Lib.hid hnx
        have HW4 := Lib.hid hw4
        have HSo : Hid (∀ W5, Below w4.heap.size w4 W5 → W5.cell? ⟨W.heap.size, 0, none⟩ = some (.int .i64 t) ∧ W5.cell? ⟨W.heap.size, 1, none⟩ = some (.int .i64 120) ∧ W5.cell? ⟨W.heap.size, 2, none⟩ = some (.int .i64 varg) ∧ W5.cell? ⟨W.heap.size, 3, none⟩ = some (.int .i64 vdat)) := fun W5 hb => by
          have hk := bk4.below hb bk4.lt
          exact ⟨hk.cell rfl, hk.cell rfl, hk.cell rfl, hk.cell rfl⟩
        have HK4 := Lib.hid bk4
        clear bk4 hx4 ho4 hB4 hnx hw4
        refine wp_region_held_drew (S := fun W5 => W5.cell? ⟨W.heap.size, 0, none⟩ = some (.int .i64 t) ∧ W5.cell? ⟨W.heap.size, 1, none⟩ = some (.int .i64 120) ∧ W5.cell? ⟨W.heap.size, 2, none⟩ = some (.int .i64 varg) ∧ W5.cell? ⟨W.heap.size, 3, none⟩ = some (.int .i64 vdat)) (by kernel_rfl) ⟨c0, c1, c2, c3⟩ (fun hS => ?_)
        iterate 4 (refine tkF 0 (v := ?_) ?_ ?_; rotate_left; · (intro W hSw; (try dsimp only at hSw); go_simp; try with_reducible rfl); try simp only [Act.put, List.setIfInBounds_toArray, List.set_cons_zero, List.set_cons_succ])
        iterate 10 (refine tkF 5 (v := ?_) ?_ ?_; rotate_left; · (intro W hSw; (try dsimp only at hSw); go_simp; try with_reducible rfl); try simp only [Act.put, List.setIfInBounds_toArray, List.set_cons_zero, List.set_cons_succ])
        have HSa := HSo.out (w4.drew.alloc (.cells (calL ⟨t, 120, varg, vdat, m.moves, -1, -1, 0, 0⟩).toArray 62)) ((Below.refl _ _).drew.alloc (Nat.le_refl _) _)
        refine rd2 4 15 (fun K1 hK1 => ?ga) (fun K1 hK1 => ?gb)
        case' ga =>
          go_simp
          refine hK1.out _ _ hS (fun _ => ?_)
          refine rd 15 fun K2 hK2 => ?_
          go_simp
          refine hK2.out _ _ HSa (fun _ => ?_)
        case' gb =>
          go_simp
          refine hK1.out _ _ HSa (fun _ => ?_)
          refine rd 4 fun K2 hK2 => ?_
          go_simp
          refine hK2.out _ _ HSa (fun _ => ?_)
        all_goals (
          refine rd 16 fun K3 hK3 => ?_
          refine wp_app _ _ _ 35 (by rfl) B 62 ic (.agg #[.int .i64 0, .int .i64 0, .int .i64 0, .int .i64 0, .int .i64 0, .int .i64 0, .int .i64 0, .int .i64 0, .int .i64 0]) 9 72 Try.underlying35 hic hicz hics hicb rfl (by decide) (.slice Ac m.calls.length kc) m.calls.length (calVals m.calls) (by rfl) (HO4.out.alloc _) (w4.heap.size + 1) (some ⟨w4.heap.size, 0, none⟩) 1 1 (calL ⟨t, 120, varg, vdat, m.moves, -1, -1, 0, 0⟩) (by rfl) (((Blk.new w4.drew 62 _).sl rfl).up (by simp)) (cal_one _) (m.calls.length + 1) rfl _ rfl _ rfl (by simp only [maxLen]; omega) (by omega) (by simp <;> omega) ?_
          intro A10 k10 W10 hown10 hg10 hat10 hk10 hk11
          have hy9 := (HX4.out.alloc (.cells (calL ⟨t, 120, varg, vdat, m.moves, -1, -1, 0, 0⟩).toArray 62)).grown hg10 HNX.out
          have d3 : W10.cell? ⟨M.x, 10, none⟩ = some (.slice Ac m.calls.length kc) := by have := hy9.cell (i := 10) rfl; rw [← hvc]; exact this
          have f3 : W10.frozen? ⟨M.x, 10, none⟩ = false := hy9.frozen 10
          have hbk9 := (Blk.alloc (Blk.drew HK4.out) (.cells (calL ⟨t, 120, varg, vdat, m.moves, -1, -1, 0, 0⟩).toArray 62)).grown hg10 (own_blk_ne HO4.out (Blk.drew HK4.out) (by decide))
          have hbk8 := hbk9.far (p := ⟨M.x, 10, none⟩) (hbk9.blk_ne hy9 (by decide)) (.slice A10 (m.calls.length + 1) k10)
          have hgr : (seat5 w3.drew M.sg (t * 5) (.iface (tkP .acq) (.pointer (some ⟨g, 0, none⟩))) m.calls.length).grownBy W10 M.vc.ownBlock := by
            have e9 : seat5 w3.drew M.sg (t * 5) (.iface (tkP .acq) (.pointer (some ⟨g, 0, none⟩))) m.calls.length = w4.drew := by rw [← HW4.out]; simp only [seat5, World.setCell_drew]
            rw [e9, show M.vc = _ from hvc]
            exact (World.grownBy_alloc _ _ _).trans hg10
          have HFin := Lib.hid (HM3.out.drew.begun hh HG3.out.drew (Nat.le_trans (Nat.le_trans hsW HB2.out.size) hg4) HN3.out hc8 ⟨t, 120, varg, vdat⟩ hgr hown10)
          have HBf : Hid (Bk B W (W10.setCell ⟨M.x, 10, none⟩ (.slice A10 (m.calls.length + 1) k10))) := ((HB4.out.drew.alloc hsz4 _).grown hg10 (by simp; omega) (fun q hq => (HO4.out.lt q hq).1) (fun q t' cs' hq hk' => by rw [own_type (HO4.out.alloc _) hq hk']; rfl)).setCell (p := ⟨M.x, 10, none⟩) HB.out hy9 rfl _
          refine hK3.out _ _ ⟨hbk9.cell rfl, hbk9.cell rfl, hbk9.cell rfl, hbk9.cell rfl⟩ (fun _ => ?_)
          have HK8 := Lib.hid hbk8
          clear hg10 hown10 hat10 hk10 hk11 hy9 hgr hbk9 hbk8
          iterate 2 (refine tkF 0 (v := ?_) ?_ ?_; rotate_left; · (intro W hSw; (try dsimp only at hSw); go_simp; try with_reducible rfl); try simp only [Act.put, List.setIfInBounds_toArray, List.set_cons_zero, List.set_cons_succ])
          refine rd 19 fun K4 hK4 => ?_
          go_simp
          refine hK4.out _ _ ⟨HK8.out.cell rfl, HK8.out.cell rfl, HK8.out.cell rfl, HK8.out.cell rfl⟩ (fun _ => ?_)
          refine wpAnyH_done (by kernel_rfl) ?_ _
          go_wp2_with fail
          go_ret
          exact ⟨rfl, ⟨{ M with vc := .slice A10 (m.calls.length + 1) k10, tb := fun i => if i = t then g else M.tb i }, rfl, HFin.out⟩, HBf.out⟩))))
set_option maxRecDepth 100000 in
set_option maxHeartbeats 4000000 in
theorem move121_0 (H : MM W B M m) (hlog : m.log.length ≤ m.moves) (hcl : m.calls.length ≤ m.moves) (hm : m.moves < 65536) (hh : m.ths[t]? = some h) (hp : h.task = none) (hal : h.alone = true) (varg vdat : Int) :
    Calls Try.prog 29 #[.pointer (some ⟨M.x, 0, none⟩), .agg #[.int .i64 t, .int .i64 121, .int .i64 varg, .int .i64 vdat]] W (MvR B M W (true, m.begun t h .rel ⟨t, 121, varg, vdat⟩)) := by
  have hn0 : ((m.ths.length : Int) == 0) = false := beq_eq_false_iff_ne.2 (by have := H.nt.1; omega)
  have hm0 : (0 : Int) ≤ m.moves := by omega
  have hsW : B ≤ W.heap.size := by obtain ⟨_, _, _, hx⟩ := H.xb; exact Nat.le_trans H.bx (Nat.le_of_lt hx.lt)
  obtain ⟨th0, now0, us0, hx⟩ := H.xb
  have x8 : W.cell? ⟨M.x, 8, none⟩ = some (.slice (some ⟨M.sg, 0, none⟩) m.ths.length M.sk) := hx.cell rfl
  have x9 : W.cell? ⟨M.x, 9, none⟩ = some (.int .i64 m.moves) := hx.cell rfl
  have f9 := hx.frozen 9
  have lx := hx.lt
  have HB := Lib.hid H.bx
  have hnm := H.nm.2.1
  have hmv : decide ((65536 : Int) ≤ m.moves) = false := by simp; omega
  have H2 := (H.tick (by omega)).on (W' := (W.setCell ⟨M.x, 9, none⟩ (.int .i64 (m.moves + 1))).alloc (.cells #[.int .i64 t, .int .i64 121, .int .i64 varg, .int .i64 vdat] 78)) ((Below.refl _ _).alloc (Nat.le_refl _) _)
  have hB2 : Bk B W ((W.setCell ⟨M.x, 9, none⟩ (.int .i64 (m.moves + 1))).alloc (.cells #[.int .i64 t, .int .i64 121, .int .i64 varg, .int .i64 vdat] 78)) := ((Bk.refl _ _).setCell (p := ⟨M.x, 9, none⟩) H.bx hx rfl _).alloc (by simpa using hsW) _
  have hk2 : Blk ((W.setCell ⟨M.x, 9, none⟩ (.int .i64 (m.moves + 1))).alloc (.cells #[.int .i64 t, .int .i64 121, .int .i64 varg, .int .i64 vdat] 78)) W.heap.size 78 [.int .i64 t, .int .i64 121, .int .i64 varg, .int .i64 vdat] := by
    have := Blk.new (W.setCell ⟨M.x, 9, none⟩ (.int .i64 (m.moves + 1))) 78 [.int .i64 t, .int .i64 121, .int .i64 varg, .int .i64 vdat]
    have hz : (W.setCell ⟨M.x, 9, none⟩ (.int .i64 (m.moves + 1))).heap.size = W.heap.size := by simp
    rw [hz] at this
    exact this
  clear H hx
  go_enter Try.func29, Try.ntmps29
  go_upto_region 5 with fail
  generalize (W.setCell ⟨M.x, 9, none⟩ (.int .i64 (m.moves + 1))).alloc (.cells #[.int .i64 t, .int .i64 121, .int .i64 varg, .int .i64 vdat] 78) = W2 at H2 hB2 hk2 ⊢
  clear x8 x9 f9 lx
  obtain ⟨th1, now1, us1, hx⟩ := H2.xb
  have x8 : W2.cell? ⟨M.x, 8, none⟩ = some (.slice (some ⟨M.sg, 0, none⟩) m.ths.length M.sk) := hx.cell rfl
  have x7 : W2.cell? ⟨M.x, 7, none⟩ = some (.map (some M.kb)) := hx.cell rfl
  have x10 : W2.cell? ⟨M.x, 10, none⟩ = some M.vc := hx.cell rfl
  have fx10 := hx.frozen 10
  have b0 : W2.cell? ⟨W.heap.size, 0, none⟩ = some (.int .i64 t) := hk2.cell rfl
  have b1 : W2.cell? ⟨W.heap.size, 1, none⟩ = some (.int .i64 121) := hk2.cell rfl
  have b2 : W2.cell? ⟨W.heap.size, 2, none⟩ = some (.int .i64 varg) := hk2.cell rfl
  have b3 : W2.cell? ⟨W.heap.size, 3, none⟩ = some (.int .i64 vdat) := hk2.cell rfl
  have lx := hx.lt
  have lb := hk2.lt
  have ls := H2.se.lt
  have HX := Lib.hid hx
  have HBk := Lib.hid hk2
  have HB2 := Lib.hid hB2
  have s0 : W2.cell? ⟨M.sg, t * 5, none⟩ = some .nilIface := H2.se.cell (by
    have := thVals_get (M := M) 0 hh 0 (by omega)
    rw [show t * 5 + 0 = t * 5 from rfl] at this
    rw [this]
    show some (tkV M (0 + t) h.task) = _
    rw [hp]
    skip
    rfl)
  have htn : t < m.ths.length := (List.getElem?_eq_some_iff.1 hh).1
  have ntn : (t : Int) < m.ths.length := by omega
  have nt0 : (0 : Int) ≤ t := by omega
  have dt0 : decide ((t : Int) < 0) = false := by simp
  have dtn : decide ((m.ths.length : Int) ≤ t) = false := by simp; omega
  have HM2 := Lib.hid H2
  clear H2 hx hk2 hB2
  obtain ⟨ic, hic, hicz, hics, hicb⟩ := info_parts info_cal
  obtain ⟨Ac, kc, hvc, hk1, hk2⟩ := own_form HM2.out.ca
  dsimp only at hk1 hvc
  obtain ⟨ko, hko, hkk⟩ := HM2.out.kit
  have hl := kit_look hkk (W := W2.drew.drew.drew) hko 121 (by decide)
  rw [show kitF M.cv M.sv 121 = .func (.func 45) #[] #[.pointer (some ⟨M.sv, 0, none⟩)] from rfl] at hl
  have nF := funF_eq (.func 45) #[] #[.pointer (some ⟨M.sv, 0, none⟩)]
  go_region
  all_goals (
    go_upto_region 7 with fail
    go_region
    all_goals (
      go_upto_region 15 with fail
      go_region
      all_goals (
        go_wp2_with fail
        refine (mk121_0 HM2.out.drew.drew.drew hh hal ⟨t, 121, varg, vdat⟩).mono ?_
        rintro e w3 ⟨g, rfl, hg3, hg4, hb3⟩
        have hM3 := HM2.out.drew.drew.drew.on hb3
        have hB3 := HB2.out.drew.drew.drew.after hb3 (Nat.le_trans hsW HB2.out.size)
        obtain ⟨th3, now3, us3, hx3⟩ := hM3.xb
        have y10 : w3.cell? ⟨M.x, 10, none⟩ = some (.slice Ac m.calls.length kc) := by have := hx3.cell (i := 10) rfl; rw [← hvc]; exact this
        have bk3 := HBk.out.drew.drew.drew.below hb3 HBk.out.lt
        have c0 : w3.cell? ⟨W.heap.size, 0, none⟩ = some (.int .i64 t) := bk3.cell rfl
        have c1 : w3.cell? ⟨W.heap.size, 1, none⟩ = some (.int .i64 121) := bk3.cell rfl
        have c2 : w3.cell? ⟨W.heap.size, 2, none⟩ = some (.int .i64 varg) := bk3.cell rfl
        have c3 : w3.cell? ⟨W.heap.size, 3, none⟩ = some (.int .i64 vdat) := bk3.cell rfl
        have e0 := thVals_get (M := M) 0 hh 0 (by omega)
        have e1 := thVals_get (M := M) 0 hh 1 (by omega)
        have e2 := thVals_get (M := M) 0 hh 2 (by omega)
        have e3 := thVals_get (M := M) 0 hh 3 (by omega)
        have e4 := thVals_get (M := M) 0 hh 4 (by omega)
        have u0 : w3.cell? ⟨M.sg, t * 5, none⟩ = some (tkV M (0 + t) h.task) := hM3.se.cell e0
        have u1 : w3.cell? ⟨M.sg, t * 5 + 1, none⟩ = some (.bool h.ready) := hM3.se.cell e1
        have u2 : w3.cell? ⟨M.sg, t * 5 + 2, none⟩ = some (.int .i64 h.last) := hM3.se.cell e2
        have u3 : w3.cell? ⟨M.sg, t * 5 + 3, none⟩ = some (.int .i64 h.ak) := hM3.se.cell e3
        have u4 : w3.cell? ⟨M.sg, t * 5 + 4, none⟩ = some (.int .i64 h.av) := hM3.se.cell e4
        have v0 := hM3.se.frozen (t * 5)
        have v1 := hM3.se.frozen (t * 5 + 1)
        have v2 := hM3.se.frozen (t * 5 + 2)
        have v3 := hM3.se.frozen (t * 5 + 3)
        have v4 := hM3.se.frozen (t * 5 + 4)
        have nx := hM3.se.blk_ne hx3 (by decide)
        have nb := hM3.se.blk_ne bk3 (by decide)
        have HM3 := Lib.hid hM3
        have HB3 := Lib.hid hB3
        have HX3 := Lib.hid hx3
        have HG3 := Lib.hid hg3
        have HK3 := Lib.hid bk3
        have HN3 := Lib.hid (show ∀ (i : Nat) (h' : Th) (p' : Tp), m.ths[i]? = some h' → h'.task = some p' → M.tb i ≠ g from fun i h' p' h1 h2 e => by have := (HM2.out.tk i h' p' h1 h2).1.lt; rw [e] at this; have h5 : W2.heap.size ≤ g := hg4; omega)
        clear hM3 hB3 hx3 hg3 bk3 hb3 e0 e1 e2 e3 e4
        go_upto_region 22 with fail
        have bk4 : Blk (((((w3.setCell ⟨M.sg, t * 5, none⟩ (.iface (tkP .rel) (.pointer (some ⟨g, 0, none⟩)))).setCell ⟨M.sg, t * 5 + 1, none⟩ (.bool false)).setCell ⟨M.sg, t * 5 + 2, none⟩ (.int .i64 m.calls.length)).setCell ⟨M.sg, t * 5 + 3, none⟩ (.int .i64 1)).setCell ⟨M.sg, t * 5 + 4, none⟩ (.int .i64 0)) W.heap.size 78 [.int .i64 t, .int .i64 121, .int .i64 varg, .int .i64 vdat] := ((((HK3.out.far nb.symm _).far nb.symm _).far nb.symm _).far nb.symm _).far nb.symm _
        have hx4 : Blk (((((w3.setCell ⟨M.sg, t * 5, none⟩ (.iface (tkP .rel) (.pointer (some ⟨g, 0, none⟩)))).setCell ⟨M.sg, t * 5 + 1, none⟩ (.bool false)).setCell ⟨M.sg, t * 5 + 2, none⟩ (.int .i64 m.calls.length)).setCell ⟨M.sg, t * 5 + 3, none⟩ (.int .i64 1)).setCell ⟨M.sg, t * 5 + 4, none⟩ (.int .i64 0)) M.x 126 [.pointer (some ⟨M.y, 0, none⟩), .int .i64 th3, .int .i64 now3, .pointer none, .pointer none, .bool us3, .slice none 0 0, .map (some M.kb), .slice (some ⟨M.sg, 0, none⟩) m.ths.length M.sk, .int .i64 (m.moves + 1), M.vc] := ((((HX3.out.far nx.symm _).far nx.symm _).far nx.symm _).far nx.symm _).far nx.symm _
        have ho4 : (((((w3.setCell ⟨M.sg, t * 5, none⟩ (.iface (tkP .rel) (.pointer (some ⟨g, 0, none⟩)))).setCell ⟨M.sg, t * 5 + 1, none⟩ (.bool false)).setCell ⟨M.sg, t * 5 + 2, none⟩ (.int .i64 m.calls.length)).setCell ⟨M.sg, t * 5 + 3, none⟩ (.int .i64 1)).setCell ⟨M.sg, t * 5 + 4, none⟩ (.int .i64 0)).ownsRow B 62 9 (.slice Ac m.calls.length kc) m.calls.length (calVals m.calls) := by
          have hca := HM3.out.ca
          have hne := own_rw_ne hca HM3.out.se (by decide)
          have := own_setf (own_setf (own_setf (own_setf (own_setf hca (p := ⟨M.sg, t * 5, none⟩) hne (.iface (tkP .rel) (.pointer (some ⟨g, 0, none⟩)))) (p := ⟨M.sg, t * 5 + 1, none⟩) hne (.bool false)) (p := ⟨M.sg, t * 5 + 2, none⟩) hne (.int .i64 m.calls.length)) (p := ⟨M.sg, t * 5 + 3, none⟩) hne (.int .i64 1)) (p := ⟨M.sg, t * 5 + 4, none⟩) hne (.int .i64 0)
          dsimp only at this
          rw [hvc] at this
          exact this
        have hB4 : Bk B W (((((w3.setCell ⟨M.sg, t * 5, none⟩ (.iface (tkP .rel) (.pointer (some ⟨g, 0, none⟩)))).setCell ⟨M.sg, t * 5 + 1, none⟩ (.bool false)).setCell ⟨M.sg, t * 5 + 2, none⟩ (.int .i64 m.calls.length)).setCell ⟨M.sg, t * 5 + 3, none⟩ (.int .i64 1)).setCell ⟨M.sg, t * 5 + 4, none⟩ (.int .i64 0)) := HB3.out.seat5 HM3.out.bs HM3.out.se rfl _ _ _ _ _
        have hnx : some M.x ≠ (Value.slice Ac m.calls.length kc).ownBlock := own_blk_ne ho4 hx4 (by decide)
        generalize hw4 : (((((w3.setCell ⟨M.sg, t * 5, none⟩ (.iface (tkP .rel) (.pointer (some ⟨g, 0, none⟩)))).setCell ⟨M.sg, t * 5 + 1, none⟩ (.bool false)).setCell ⟨M.sg, t * 5 + 2, none⟩ (.int .i64 m.calls.length)).setCell ⟨M.sg, t * 5 + 3, none⟩ (.int .i64 1)).setCell ⟨M.sg, t * 5 + 4, none⟩ (.int .i64 0)) = w4 at bk4 hx4 ho4 hB4 ⊢
        clear c0 c1 c2 c3 u0 u1 u2 u3 u4 v0 v1 v2 v3 v4 nx nb y10
        have c0 : w4.cell? ⟨W.heap.size, 0, none⟩ = some (.int .i64 t) := bk4.cell rfl
        have c1 : w4.cell? ⟨W.heap.size, 1, none⟩ = some (.int .i64 121) := bk4.cell rfl
        have c2 : w4.cell? ⟨W.heap.size, 2, none⟩ = some (.int .i64 varg) := bk4.cell rfl
        have c3 : w4.cell? ⟨W.heap.size, 3, none⟩ = some (.int .i64 vdat) := bk4.cell rfl
        have y10 : w4.cell? ⟨M.x, 10, none⟩ = some (.slice Ac m.calls.length kc) := by have := hx4.cell (i := 10) rfl; rw [← hvc]; exact this
        have l4 := hx4.lt
        have l5 := bk4.lt
        have hsz4 : B ≤ w4.heap.size := Nat.le_trans hsW hB4.size
        have hc9 : m.calls.length ≤ 65536 := by have := HM3.out.nm.2.2; dsimp only at this; omega
        have hc8 : m.calls.length ≤ m.moves := hcl
        have HO4 : Hid (w4.drew.ownsRow B 62 9 (.slice Ac m.calls.length kc) m.calls.length (calVals m.calls)) := ho4
        have HX4 : Hid (Blk w4.drew M.x 126 _) := hx4
        have HB4 := Lib.hid hB4
        have HNX := Lib.hid hnx
        have HW4 := Lib.hid hw4
        have HSo : Hid (∀ W5, Below w4.heap.size w4 W5 → W5.cell? ⟨W.heap.size, 0, none⟩ = some (.int .i64 t) ∧ W5.cell? ⟨W.heap.size, 1, none⟩ = some (.int .i64 121) ∧ W5.cell? ⟨W.heap.size, 2, none⟩ = some (.int .i64 varg) ∧ W5.cell? ⟨W.heap.size, 3, none⟩ = some (.int .i64 vdat)) := fun W5 hb => by
          have hk := bk4.below hb bk4.lt
          exact ⟨hk.cell rfl, hk.cell rfl, hk.cell rfl, hk.cell rfl⟩
        have HK4 := Lib.hid bk4
        clear bk4 hx4 ho4 hB4 hnx hw4
        refine wp_region_held_drew (S := fun W5 => W5.cell? ⟨W.heap.size, 0, none⟩ = some (.int .i64 t) ∧ W5.cell? ⟨W.heap.size, 1, none⟩ = some (.int .i64 121) ∧ W5.cell? ⟨W.heap.size, 2, none⟩ = some (.int .i64 varg) ∧ W5.cell? ⟨W.heap.size, 3, none⟩ = some (.int .i64 vdat)) (by kernel_rfl) ⟨c0, c1, c2, c3⟩ (fun hS => ?_)
        iterate 4 (refine tkF 0 (v := ?_) ?_ ?_; rotate_left; · (intro W hSw; (try dsimp only at hSw); go_simp; try with_reducible rfl); try simp only [Act.put, List.setIfInBounds_toArray, List.set_cons_zero, List.set_cons_succ])
        iterate 10 (refine tkF 5 (v := ?_) ?_ ?_; rotate_left; · (intro W hSw; (try dsimp only at hSw); go_simp; try with_reducible rfl); try simp only [Act.put, List.setIfInBounds_toArray, List.set_cons_zero, List.set_cons_succ])
        have HSa := HSo.out (w4.drew.alloc (.cells (calL ⟨t, 121, varg, vdat, m.moves, -1, -1, 0, 0⟩).toArray 62)) ((Below.refl _ _).drew.alloc (Nat.le_refl _) _)
        refine rd2 4 15 (fun K1 hK1 => ?ga) (fun K1 hK1 => ?gb)
        case' ga =>
          go_simp
          refine hK1.out _ _ hS (fun _ => ?_)
          refine rd 15 fun K2 hK2 => ?_
          go_simp
          refine hK2.out _ _ HSa (fun _ => ?_)
        case' gb =>
          go_simp
          refine hK1.out _ _ HSa (fun _ => ?_)
          refine rd 4 fun K2 hK2 => ?_
          go_simp
          refine hK2.out _ _ HSa (fun _ => ?_)
        all_goals (
          refine rd 16 fun K3 hK3 => ?_
          refine wp_app _ _ _ 35 (by rfl) B 62 ic (.agg #[.int .i64 0, .int .i64 0, .int .i64 0, .int .i64 0, .int .i64 0, .int .i64 0, .int .i64 0, .int .i64 0, .int .i64 0]) 9 72 Try.underlying35 hic hicz hics hicb rfl (by decide) (.slice Ac m.calls.length kc) m.calls.length (calVals m.calls) (by rfl) (HO4.out.alloc _) (w4.heap.size + 1) (some ⟨w4.heap.size, 0, none⟩) 1 1 (calL ⟨t, 121, varg, vdat, m.moves, -1, -1, 0, 0⟩) (by rfl) (((Blk.new w4.drew 62 _).sl rfl).up (by simp)) (cal_one _) (m.calls.length + 1) rfl _ rfl _ rfl (by simp only [maxLen]; omega) (by omega) (by simp <;> omega) ?_
          intro A10 k10 W10 hown10 hg10 hat10 hk10 hk11
          have hy9 := (HX4.out.alloc (.cells (calL ⟨t, 121, varg, vdat, m.moves, -1, -1, 0, 0⟩).toArray 62)).grown hg10 HNX.out
          have d3 : W10.cell? ⟨M.x, 10, none⟩ = some (.slice Ac m.calls.length kc) := by have := hy9.cell (i := 10) rfl; rw [← hvc]; exact this
          have f3 : W10.frozen? ⟨M.x, 10, none⟩ = false := hy9.frozen 10
          have hbk9 := (Blk.alloc (Blk.drew HK4.out) (.cells (calL ⟨t, 121, varg, vdat, m.moves, -1, -1, 0, 0⟩).toArray 62)).grown hg10 (own_blk_ne HO4.out (Blk.drew HK4.out) (by decide))
          have hbk8 := hbk9.far (p := ⟨M.x, 10, none⟩) (hbk9.blk_ne hy9 (by decide)) (.slice A10 (m.calls.length + 1) k10)
          have hgr : (seat5 w3.drew M.sg (t * 5) (.iface (tkP .rel) (.pointer (some ⟨g, 0, none⟩))) m.calls.length).grownBy W10 M.vc.ownBlock := by
            have e9 : seat5 w3.drew M.sg (t * 5) (.iface (tkP .rel) (.pointer (some ⟨g, 0, none⟩))) m.calls.length = w4.drew := by rw [← HW4.out]; simp only [seat5, World.setCell_drew]
            rw [e9, show M.vc = _ from hvc]
            exact (World.grownBy_alloc _ _ _).trans hg10
          have HFin := Lib.hid (HM3.out.drew.begun hh HG3.out.drew (Nat.le_trans (Nat.le_trans hsW HB2.out.size) hg4) HN3.out hc8 ⟨t, 121, varg, vdat⟩ hgr hown10)
          have HBf : Hid (Bk B W (W10.setCell ⟨M.x, 10, none⟩ (.slice A10 (m.calls.length + 1) k10))) := ((HB4.out.drew.alloc hsz4 _).grown hg10 (by simp; omega) (fun q hq => (HO4.out.lt q hq).1) (fun q t' cs' hq hk' => by rw [own_type (HO4.out.alloc _) hq hk']; rfl)).setCell (p := ⟨M.x, 10, none⟩) HB.out hy9 rfl _
          refine hK3.out _ _ ⟨hbk9.cell rfl, hbk9.cell rfl, hbk9.cell rfl, hbk9.cell rfl⟩ (fun _ => ?_)
          have HK8 := Lib.hid hbk8
          clear hg10 hown10 hat10 hk10 hk11 hy9 hgr hbk9 hbk8
          iterate 2 (refine tkF 0 (v := ?_) ?_ ?_; rotate_left; · (intro W hSw; (try dsimp only at hSw); go_simp; try with_reducible rfl); try simp only [Act.put, List.setIfInBounds_toArray, List.set_cons_zero, List.set_cons_succ])
          refine rd 19 fun K4 hK4 => ?_
          go_simp
          refine hK4.out _ _ ⟨HK8.out.cell rfl, HK8.out.cell rfl, HK8.out.cell rfl, HK8.out.cell rfl⟩ (fun _ => ?_)
          refine wpAnyH_done (by kernel_rfl) ?_ _
          go_wp2_with fail
          go_ret
          exact ⟨rfl, ⟨{ M with vc := .slice A10 (m.calls.length + 1) k10, tb := fun i => if i = t then g else M.tb i }, rfl, HFin.out⟩, HBf.out⟩))))
set_option maxRecDepth 100000 in
set_option maxHeartbeats 4000000 in
theorem move122_3 (H : MM W B M m) (hlog : m.log.length ≤ m.moves) (hcl : m.calls.length ≤ m.moves) (hm : m.moves < 65536) (hh : m.ths[t]? = some h) (hp : h.task = none) (hkd : (m.kd != 7) = false) (hal : h.alone = false) (hsh : h.shares = false) (varg vdat : Int) :
    Calls Try.prog 29 #[.pointer (some ⟨M.x, 0, none⟩), .agg #[.int .i64 t, .int .i64 122, .int .i64 varg, .int .i64 vdat]] W (MvR B M W (true, m.begun t h (.shr 1 0 false) ⟨t, 122, varg, vdat⟩)) := by
  have hn0 : ((m.ths.length : Int) == 0) = false := beq_eq_false_iff_ne.2 (by have := H.nt.1; omega)
  have hm0 : (0 : Int) ≤ m.moves := by omega
  have hsW : B ≤ W.heap.size := by obtain ⟨_, _, _, hx⟩ := H.xb; exact Nat.le_trans H.bx (Nat.le_of_lt hx.lt)
  obtain ⟨th0, now0, us0, hx⟩ := H.xb
  have x8 : W.cell? ⟨M.x, 8, none⟩ = some (.slice (some ⟨M.sg, 0, none⟩) m.ths.length M.sk) := hx.cell rfl
  have x9 : W.cell? ⟨M.x, 9, none⟩ = some (.int .i64 m.moves) := hx.cell rfl
  have f9 := hx.frozen 9
  have lx := hx.lt
  have HB := Lib.hid H.bx
  have hnm := H.nm.2.1
  have hmv : decide ((65536 : Int) ≤ m.moves) = false := by simp; omega
  have H2 := (H.tick (by omega)).on (W' := (W.setCell ⟨M.x, 9, none⟩ (.int .i64 (m.moves + 1))).alloc (.cells #[.int .i64 t, .int .i64 122, .int .i64 varg, .int .i64 vdat] 78)) ((Below.refl _ _).alloc (Nat.le_refl _) _)
  have hB2 : Bk B W ((W.setCell ⟨M.x, 9, none⟩ (.int .i64 (m.moves + 1))).alloc (.cells #[.int .i64 t, .int .i64 122, .int .i64 varg, .int .i64 vdat] 78)) := ((Bk.refl _ _).setCell (p := ⟨M.x, 9, none⟩) H.bx hx rfl _).alloc (by simpa using hsW) _
  have hk2 : Blk ((W.setCell ⟨M.x, 9, none⟩ (.int .i64 (m.moves + 1))).alloc (.cells #[.int .i64 t, .int .i64 122, .int .i64 varg, .int .i64 vdat] 78)) W.heap.size 78 [.int .i64 t, .int .i64 122, .int .i64 varg, .int .i64 vdat] := by
    have := Blk.new (W.setCell ⟨M.x, 9, none⟩ (.int .i64 (m.moves + 1))) 78 [.int .i64 t, .int .i64 122, .int .i64 varg, .int .i64 vdat]
    have hz : (W.setCell ⟨M.x, 9, none⟩ (.int .i64 (m.moves + 1))).heap.size = W.heap.size := by simp
    rw [hz] at this
    exact this
  clear H hx
  go_enter Try.func29, Try.ntmps29
  go_upto_region 5 with fail
  generalize (W.setCell ⟨M.x, 9, none⟩ (.int .i64 (m.moves + 1))).alloc (.cells #[.int .i64 t, .int .i64 122, .int .i64 varg, .int .i64 vdat] 78) = W2 at H2 hB2 hk2 ⊢
  clear x8 x9 f9 lx
  obtain ⟨th1, now1, us1, hx⟩ := H2.xb
  have x8 : W2.cell? ⟨M.x, 8, none⟩ = some (.slice (some ⟨M.sg, 0, none⟩) m.ths.length M.sk) := hx.cell rfl
  have x7 : W2.cell? ⟨M.x, 7, none⟩ = some (.map (some M.kb)) := hx.cell rfl
  have x10 : W2.cell? ⟨M.x, 10, none⟩ = some M.vc := hx.cell rfl
  have fx10 := hx.frozen 10
  have b0 : W2.cell? ⟨W.heap.size, 0, none⟩ = some (.int .i64 t) := hk2.cell rfl
  have b1 : W2.cell? ⟨W.heap.size, 1, none⟩ = some (.int .i64 122) := hk2.cell rfl
  have b2 : W2.cell? ⟨W.heap.size, 2, none⟩ = some (.int .i64 varg) := hk2.cell rfl
  have b3 : W2.cell? ⟨W.heap.size, 3, none⟩ = some (.int .i64 vdat) := hk2.cell rfl
  have lx := hx.lt
  have lb := hk2.lt
  have ls := H2.se.lt
  have HX := Lib.hid hx
  have HBk := Lib.hid hk2
  have HB2 := Lib.hid hB2
  have s0 : W2.cell? ⟨M.sg, t * 5, none⟩ = some .nilIface := H2.se.cell (by
    have := thVals_get (M := M) 0 hh 0 (by omega)
    rw [show t * 5 + 0 = t * 5 from rfl] at this
    rw [this]
    show some (tkV M (0 + t) h.task) = _
    rw [hp]
    skip
    rfl)
  have htn : t < m.ths.length := (List.getElem?_eq_some_iff.1 hh).1
  have ntn : (t : Int) < m.ths.length := by omega
  have nt0 : (0 : Int) ≤ t := by omega
  have dt0 : decide ((t : Int) < 0) = false := by simp
  have dtn : decide ((m.ths.length : Int) ≤ t) = false := by simp; omega
  have HM2 := Lib.hid H2
  clear H2 hx hk2 hB2
  obtain ⟨ic, hic, hicz, hics, hicb⟩ := info_parts info_cal
  obtain ⟨Ac, kc, hvc, hk1, hk2⟩ := own_form HM2.out.ca
  dsimp only at hk1 hvc
  obtain ⟨ko, hko, hkk⟩ := HM2.out.kit
  have hl := kit_look hkk (W := W2.drew.drew.drew) hko 122 (by decide)
  rw [show kitF M.cv M.sv 122 = .func (.func 46) #[] #[.pointer (some ⟨M.cv, 0, none⟩), .pointer (some ⟨M.sv, 0, none⟩)] from rfl] at hl
  have nF := funF_eq (.func 46) #[] #[.pointer (some ⟨M.cv, 0, none⟩), .pointer (some ⟨M.sv, 0, none⟩)]
  go_region
  all_goals (
    go_upto_region 7 with fail
    go_region
    all_goals (
      go_upto_region 15 with fail
      go_region
      all_goals (
        go_wp2_with fail
        refine (mk122_3 HM2.out.drew.drew.drew hh hkd hal hsh ⟨t, 122, varg, vdat⟩).mono ?_
        rintro e w3 ⟨g, rfl, hg3, hg4, hb3⟩
        have hM3 := HM2.out.drew.drew.drew.on hb3
        have hB3 := HB2.out.drew.drew.drew.after hb3 (Nat.le_trans hsW HB2.out.size)
        obtain ⟨th3, now3, us3, hx3⟩ := hM3.xb
        have y10 : w3.cell? ⟨M.x, 10, none⟩ = some (.slice Ac m.calls.length kc) := by have := hx3.cell (i := 10) rfl; rw [← hvc]; exact this
        have bk3 := HBk.out.drew.drew.drew.below hb3 HBk.out.lt
        have c0 : w3.cell? ⟨W.heap.size, 0, none⟩ = some (.int .i64 t) := bk3.cell rfl
        have c1 : w3.cell? ⟨W.heap.size, 1, none⟩ = some (.int .i64 122) := bk3.cell rfl
        have c2 : w3.cell? ⟨W.heap.size, 2, none⟩ = some (.int .i64 varg) := bk3.cell rfl
        have c3 : w3.cell? ⟨W.heap.size, 3, none⟩ = some (.int .i64 vdat) := bk3.cell rfl
        have e0 := thVals_get (M := M) 0 hh 0 (by omega)
        have e1 := thVals_get (M := M) 0 hh 1 (by omega)
        have e2 := thVals_get (M := M) 0 hh 2 (by omega)
        have e3 := thVals_get (M := M) 0 hh 3 (by omega)
        have e4 := thVals_get (M := M) 0 hh 4 (by omega)
        have u0 : w3.cell? ⟨M.sg, t * 5, none⟩ = some (tkV M (0 + t) h.task) := hM3.se.cell e0
        have u1 : w3.cell? ⟨M.sg, t * 5 + 1, none⟩ = some (.bool h.ready) := hM3.se.cell e1
        have u2 : w3.cell? ⟨M.sg, t * 5 + 2, none⟩ = some (.int .i64 h.last) := hM3.se.cell e2
        have u3 : w3.cell? ⟨M.sg, t * 5 + 3, none⟩ = some (.int .i64 h.ak) := hM3.se.cell e3
        have u4 : w3.cell? ⟨M.sg, t * 5 + 4, none⟩ = some (.int .i64 h.av) := hM3.se.cell e4
        have v0 := hM3.se.frozen (t * 5)
        have v1 := hM3.se.frozen (t * 5 + 1)
        have v2 := hM3.se.frozen (t * 5 + 2)
        have v3 := hM3.se.frozen (t * 5 + 3)
        have v4 := hM3.se.frozen (t * 5 + 4)
        have nx := hM3.se.blk_ne hx3 (by decide)
        have nb := hM3.se.blk_ne bk3 (by decide)
        have HM3 := Lib.hid hM3
        have HB3 := Lib.hid hB3
        have HX3 := Lib.hid hx3
        have HG3 := Lib.hid hg3
        have HK3 := Lib.hid bk3
        have HN3 := Lib.hid (show ∀ (i : Nat) (h' : Th) (p' : Tp), m.ths[i]? = some h' → h'.task = some p' → M.tb i ≠ g from fun i h' p' h1 h2 e => by have := (HM2.out.tk i h' p' h1 h2).1.lt; rw [e] at this; have h5 : W2.heap.size ≤ g := hg4; omega)
        clear hM3 hB3 hx3 hg3 bk3 hb3 e0 e1 e2 e3 e4
        go_upto_region 22 with fail
        have bk4 : Blk (((((w3.setCell ⟨M.sg, t * 5, none⟩ (.iface (tkP (.shr 1 0 false)) (.pointer (some ⟨g, 0, none⟩)))).setCell ⟨M.sg, t * 5 + 1, none⟩ (.bool false)).setCell ⟨M.sg, t * 5 + 2, none⟩ (.int .i64 m.calls.length)).setCell ⟨M.sg, t * 5 + 3, none⟩ (.int .i64 1)).setCell ⟨M.sg, t * 5 + 4, none⟩ (.int .i64 0)) W.heap.size 78 [.int .i64 t, .int .i64 122, .int .i64 varg, .int .i64 vdat] := ((((HK3.out.far nb.symm _).far nb.symm _).far nb.symm _).far nb.symm _).far nb.symm _
        have hx4 : Blk (((((w3.setCell ⟨M.sg, t * 5, none⟩ (.iface (tkP (.shr 1 0 false)) (.pointer (some ⟨g, 0, none⟩)))).setCell ⟨M.sg, t * 5 + 1, none⟩ (.bool false)).setCell ⟨M.sg, t * 5 + 2, none⟩ (.int .i64 m.calls.length)).setCell ⟨M.sg, t * 5 + 3, none⟩ (.int .i64 1)).setCell ⟨M.sg, t * 5 + 4, none⟩ (.int .i64 0)) M.x 126 [.pointer (some ⟨M.y, 0, none⟩), .int .i64 th3, .int .i64 now3, .pointer none, .pointer none, .bool us3, .slice none 0 0, .map (some M.kb), .slice (some ⟨M.sg, 0, none⟩) m.ths.length M.sk, .int .i64 (m.moves + 1), M.vc] := ((((HX3.out.far nx.symm _).far nx.symm _).far nx.symm _).far nx.symm _).far nx.symm _
        have ho4 : (((((w3.setCell ⟨M.sg, t * 5, none⟩ (.iface (tkP (.shr 1 0 false)) (.pointer (some ⟨g, 0, none⟩)))).setCell ⟨M.sg, t * 5 + 1, none⟩ (.bool false)).setCell ⟨M.sg, t * 5 + 2, none⟩ (.int .i64 m.calls.length)).setCell ⟨M.sg, t * 5 + 3, none⟩ (.int .i64 1)).setCell ⟨M.sg, t * 5 + 4, none⟩ (.int .i64 0)).ownsRow B 62 9 (.slice Ac m.calls.length kc) m.calls.length (calVals m.calls) := by
          have hca := HM3.out.ca
          have hne := own_rw_ne hca HM3.out.se (by decide)
          have := own_setf (own_setf (own_setf (own_setf (own_setf hca (p := ⟨M.sg, t * 5, none⟩) hne (.iface (tkP (.shr 1 0 false)) (.pointer (some ⟨g, 0, none⟩)))) (p := ⟨M.sg, t * 5 + 1, none⟩) hne (.bool false)) (p := ⟨M.sg, t * 5 + 2, none⟩) hne (.int .i64 m.calls.length)) (p := ⟨M.sg, t * 5 + 3, none⟩) hne (.int .i64 1)) (p := ⟨M.sg, t * 5 + 4, none⟩) hne (.int .i64 0)
          dsimp only at this
          rw [hvc] at this
          exact this
        have hB4 : Bk B W (((((w3.setCell ⟨M.sg, t * 5, none⟩ (.iface (tkP (.shr 1 0 false)) (.pointer (some ⟨g, 0, none⟩)))).setCell ⟨M.sg, t * 5 + 1, none⟩ (.bool false)).setCell ⟨M.sg, t * 5 + 2, none⟩ (.int .i64 m.calls.length)).setCell ⟨M.sg, t * 5 + 3, none⟩ (.int .i64 1)).setCell ⟨M.sg, t * 5 + 4, none⟩ (.int .i64 0)) := HB3.out.seat5 HM3.out.bs HM3.out.se rfl _ _ _ _ _
        have hnx : some M.x ≠ (Value.slice Ac m.calls.length kc).ownBlock := own_blk_ne ho4 hx4 (by decide)
        generalize hw4 : (((((w3.setCell ⟨M.sg, t * 5, none⟩ (.iface (tkP (.shr 1 0 false)) (.pointer (some ⟨g, 0, none⟩)))).setCell ⟨M.sg, t * 5 + 1, none⟩ (.bool false)).setCell ⟨M.sg, t * 5 + 2, none⟩ (.int .i64 m.calls.length)).setCell ⟨M.sg, t * 5 + 3, none⟩ (.int .i64 1)).setCell ⟨M.sg, t * 5 + 4, none⟩ (.int .i64 0)) = w4 at bk4 hx4 ho4 hB4 ⊢
        clear c0 c1 c2 c3 u0 u1 u2 u3 u4 v0 v1 v2 v3 v4 nx nb y10
        have c0 : w4.cell? ⟨W.heap.size, 0, none⟩ = some (.int .i64 t) := bk4.cell rfl
        have c1 : w4.cell? ⟨W.heap.size, 1, none⟩ = some (.int .i64 122) := bk4.cell rfl
        have c2 : w4.cell? ⟨W.heap.size, 2, none⟩ = some (.int .i64 varg) := bk4.cell rfl
        have c3 : w4.cell? ⟨W.heap.size, 3, none⟩ = some (.int .i64 vdat) := bk4.cell rfl
        have y10 : w4.cell? ⟨M.x, 10, none⟩ = some (.slice Ac m.calls.length kc) := by have := hx4.cell (i := 10) rfl; rw [← hvc]; exact this
        have l4 := hx4.lt
        have l5 := bk4.lt
        have hsz4 : B ≤ w4.heap.size := Nat.le_trans hsW hB4.size
        have hc9 : m.calls.length ≤ 65536 := by have := HM3.out.nm.2.2; dsimp only at this; omega
        have hc8 : m.calls.length ≤ m.moves := hcl
        have HO4 : Hid (w4.drew.ownsRow B 62 9 (.slice Ac m.calls.length kc) m.calls.length (calVals m.calls)) := ho4
        have HX4 : Hid (Blk w4.drew M.x 126 _) := hx4
        have HB4 := Lib.hid hB4
        have HNX := Lib.hid hnx
        have HW4 := Lib.hid hw4
        have HSo : Hid (∀ W5, Below w4.heap.size w4 W5 → W5.cell? ⟨W.heap.size, 0, none⟩ = some (.int .i64 t) ∧ W5.cell? ⟨W.heap.size, 1, none⟩ = some (.int .i64 122) ∧ W5.cell? ⟨W.heap.size, 2, none⟩ = some (.int .i64 varg) ∧ W5.cell? ⟨W.heap.size, 3, none⟩ = some (.int .i64 vdat)) := fun W5 hb => by
          have hk := bk4.below hb bk4.lt
          exact ⟨hk.cell rfl, hk.cell rfl, hk.cell rfl, hk.cell rfl⟩
        have HK4 := Lib.hid bk4
        clear bk4 hx4 ho4 hB4 hnx hw4
        refine wp_region_held_drew (S := fun W5 => W5.cell? ⟨W.heap.size, 0, none⟩ = some (.int .i64 t) ∧ W5.cell? ⟨W.heap.size, 1, none⟩ = some (.int .i64 122) ∧ W5.cell? ⟨W.heap.size, 2, none⟩ = some (.int .i64 varg) ∧ W5.cell? ⟨W.heap.size, 3, none⟩ = some (.int .i64 vdat)) (by kernel_rfl) ⟨c0, c1, c2, c3⟩ (fun hS => ?_)
        iterate 4 (refine tkF 0 (v := ?_) ?_ ?_; rotate_left; · (intro W hSw; (try dsimp only at hSw); go_simp; try with_reducible rfl); try simp only [Act.put, List.setIfInBounds_toArray, List.set_cons_zero, List.set_cons_succ])
        iterate 10 (refine tkF 5 (v := ?_) ?_ ?_; rotate_left; · (intro W hSw; (try dsimp only at hSw); go_simp; try with_reducible rfl); try simp only [Act.put, List.setIfInBounds_toArray, List.set_cons_zero, List.set_cons_succ])
        have HSa := HSo.out (w4.drew.alloc (.cells (calL ⟨t, 122, varg, vdat, m.moves, -1, -1, 0, 0⟩).toArray 62)) ((Below.refl _ _).drew.alloc (Nat.le_refl _) _)
        refine rd2 4 15 (fun K1 hK1 => ?ga) (fun K1 hK1 => ?gb)
        case' ga =>
          go_simp
          refine hK1.out _ _ hS (fun _ => ?_)
          refine rd 15 fun K2 hK2 => ?_
          go_simp
          refine hK2.out _ _ HSa (fun _ => ?_)
        case' gb =>
          go_simp
          refine hK1.out _ _ HSa (fun _ => ?_)
          refine rd 4 fun K2 hK2 => ?_
          go_simp
          refine hK2.out _ _ HSa (fun _ => ?_)
        all_goals (
          refine rd 16 fun K3 hK3 => ?_
          refine wp_app _ _ _ 35 (by rfl) B 62 ic (.agg #[.int .i64 0, .int .i64 0, .int .i64 0, .int .i64 0, .int .i64 0, .int .i64 0, .int .i64 0, .int .i64 0, .int .i64 0]) 9 72 Try.underlying35 hic hicz hics hicb rfl (by decide) (.slice Ac m.calls.length kc) m.calls.length (calVals m.calls) (by rfl) (HO4.out.alloc _) (w4.heap.size + 1) (some ⟨w4.heap.size, 0, none⟩) 1 1 (calL ⟨t, 122, varg, vdat, m.moves, -1, -1, 0, 0⟩) (by rfl) (((Blk.new w4.drew 62 _).sl rfl).up (by simp)) (cal_one _) (m.calls.length + 1) rfl _ rfl _ rfl (by simp only [maxLen]; omega) (by omega) (by simp <;> omega) ?_
          intro A10 k10 W10 hown10 hg10 hat10 hk10 hk11
          have hy9 := (HX4.out.alloc (.cells (calL ⟨t, 122, varg, vdat, m.moves, -1, -1, 0, 0⟩).toArray 62)).grown hg10 HNX.out
          have d3 : W10.cell? ⟨M.x, 10, none⟩ = some (.slice Ac m.calls.length kc) := by have := hy9.cell (i := 10) rfl; rw [← hvc]; exact this
          have f3 : W10.frozen? ⟨M.x, 10, none⟩ = false := hy9.frozen 10
          have hbk9 := (Blk.alloc (Blk.drew HK4.out) (.cells (calL ⟨t, 122, varg, vdat, m.moves, -1, -1, 0, 0⟩).toArray 62)).grown hg10 (own_blk_ne HO4.out (Blk.drew HK4.out) (by decide))
          have hbk8 := hbk9.far (p := ⟨M.x, 10, none⟩) (hbk9.blk_ne hy9 (by decide)) (.slice A10 (m.calls.length + 1) k10)
          have hgr : (seat5 w3.drew M.sg (t * 5) (.iface (tkP (.shr 1 0 false)) (.pointer (some ⟨g, 0, none⟩))) m.calls.length).grownBy W10 M.vc.ownBlock := by
            have e9 : seat5 w3.drew M.sg (t * 5) (.iface (tkP (.shr 1 0 false)) (.pointer (some ⟨g, 0, none⟩))) m.calls.length = w4.drew := by rw [← HW4.out]; simp only [seat5, World.setCell_drew]
            rw [e9, show M.vc = _ from hvc]
            exact (World.grownBy_alloc _ _ _).trans hg10
          have HFin := Lib.hid (HM3.out.drew.begun hh HG3.out.drew (Nat.le_trans (Nat.le_trans hsW HB2.out.size) hg4) HN3.out hc8 ⟨t, 122, varg, vdat⟩ hgr hown10)
          have HBf : Hid (Bk B W (W10.setCell ⟨M.x, 10, none⟩ (.slice A10 (m.calls.length + 1) k10))) := ((HB4.out.drew.alloc hsz4 _).grown hg10 (by simp; omega) (fun q hq => (HO4.out.lt q hq).1) (fun q t' cs' hq hk' => by rw [own_type (HO4.out.alloc _) hq hk']; rfl)).setCell (p := ⟨M.x, 10, none⟩) HB.out hy9 rfl _
          refine hK3.out _ _ ⟨hbk9.cell rfl, hbk9.cell rfl, hbk9.cell rfl, hbk9.cell rfl⟩ (fun _ => ?_)
          have HK8 := Lib.hid hbk8
          clear hg10 hown10 hat10 hk10 hk11 hy9 hgr hbk9 hbk8
          iterate 2 (refine tkF 0 (v := ?_) ?_ ?_; rotate_left; · (intro W hSw; (try dsimp only at hSw); go_simp; try with_reducible rfl); try simp only [Act.put, List.setIfInBounds_toArray, List.set_cons_zero, List.set_cons_succ])
          refine rd 19 fun K4 hK4 => ?_
          go_simp
          refine hK4.out _ _ ⟨HK8.out.cell rfl, HK8.out.cell rfl, HK8.out.cell rfl, HK8.out.cell rfl⟩ (fun _ => ?_)
          refine wpAnyH_done (by kernel_rfl) ?_ _
          go_wp2_with fail
          go_ret
          exact ⟨rfl, ⟨{ M with vc := .slice A10 (m.calls.length + 1) k10, tb := fun i => if i = t then g else M.tb i }, rfl, HFin.out⟩, HBf.out⟩))))
set_option maxRecDepth 100000 in
set_option maxHeartbeats 4000000 in
theorem move123_0 (H : MM W B M m) (hlog : m.log.length ≤ m.moves) (hcl : m.calls.length ≤ m.moves) (hm : m.moves < 65536) (hh : m.ths[t]? = some h) (hp : h.task = none) (hsh : h.shares = true) (varg vdat : Int) :
    Calls Try.prog 29 #[.pointer (some ⟨M.x, 0, none⟩), .agg #[.int .i64 t, .int .i64 123, .int .i64 varg, .int .i64 vdat]] W (MvR B M W (true, m.begun t h (.shr (-1) 0 false) ⟨t, 123, varg, vdat⟩)) := by
  have hn0 : ((m.ths.length : Int) == 0) = false := beq_eq_false_iff_ne.2 (by have := H.nt.1; omega)
  have hm0 : (0 : Int) ≤ m.moves := by omega
  have hsW : B ≤ W.heap.size := by obtain ⟨_, _, _, hx⟩ := H.xb; exact Nat.le_trans H.bx (Nat.le_of_lt hx.lt)
  obtain ⟨th0, now0, us0, hx⟩ := H.xb
  have x8 : W.cell? ⟨M.x, 8, none⟩ = some (.slice (some ⟨M.sg, 0, none⟩) m.ths.length M.sk) := hx.cell rfl
  have x9 : W.cell? ⟨M.x, 9, none⟩ = some (.int .i64 m.moves) := hx.cell rfl
  have f9 := hx.frozen 9
  have lx := hx.lt
  have HB := Lib.hid H.bx
  have hnm := H.nm.2.1
  have hmv : decide ((65536 : Int) ≤ m.moves) = false := by simp; omega
  have H2 := (H.tick (by omega)).on (W' := (W.setCell ⟨M.x, 9, none⟩ (.int .i64 (m.moves + 1))).alloc (.cells #[.int .i64 t, .int .i64 123, .int .i64 varg, .int .i64 vdat] 78)) ((Below.refl _ _).alloc (Nat.le_refl _) _)
  have hB2 : Bk B W ((W.setCell ⟨M.x, 9, none⟩ (.int .i64 (m.moves + 1))).alloc (.cells #[.int .i64 t, .int .i64 123, .int .i64 varg, .int .i64 vdat] 78)) := ((Bk.refl _ _).setCell (p := ⟨M.x, 9, none⟩) H.bx hx rfl _).alloc (by simpa using hsW) _
  have hk2 : Blk ((W.setCell ⟨M.x, 9, none⟩ (.int .i64 (m.moves + 1))).alloc (.cells #[.int .i64 t, .int .i64 123, .int .i64 varg, .int .i64 vdat] 78)) W.heap.size 78 [.int .i64 t, .int .i64 123, .int .i64 varg, .int .i64 vdat] := by
    have := Blk.new (W.setCell ⟨M.x, 9, none⟩ (.int .i64 (m.moves + 1))) 78 [.int .i64 t, .int .i64 123, .int .i64 varg, .int .i64 vdat]
    have hz : (W.setCell ⟨M.x, 9, none⟩ (.int .i64 (m.moves + 1))).heap.size = W.heap.size := by simp
    rw [hz] at this
    exact this
  clear H hx
  go_enter Try.func29, Try.ntmps29
  go_upto_region 5 with fail
  generalize (W.setCell ⟨M.x, 9, none⟩ (.int .i64 (m.moves + 1))).alloc (.cells #[.int .i64 t, .int .i64 123, .int .i64 varg, .int .i64 vdat] 78) = W2 at H2 hB2 hk2 ⊢
  clear x8 x9 f9 lx
  obtain ⟨th1, now1, us1, hx⟩ := H2.xb
  have x8 : W2.cell? ⟨M.x, 8, none⟩ = some (.slice (some ⟨M.sg, 0, none⟩) m.ths.length M.sk) := hx.cell rfl
  have x7 : W2.cell? ⟨M.x, 7, none⟩ = some (.map (some M.kb)) := hx.cell rfl
  have x10 : W2.cell? ⟨M.x, 10, none⟩ = some M.vc := hx.cell rfl
  have fx10 := hx.frozen 10
  have b0 : W2.cell? ⟨W.heap.size, 0, none⟩ = some (.int .i64 t) := hk2.cell rfl
  have b1 : W2.cell? ⟨W.heap.size, 1, none⟩ = some (.int .i64 123) := hk2.cell rfl
  have b2 : W2.cell? ⟨W.heap.size, 2, none⟩ = some (.int .i64 varg) := hk2.cell rfl
  have b3 : W2.cell? ⟨W.heap.size, 3, none⟩ = some (.int .i64 vdat) := hk2.cell rfl
  have lx := hx.lt
  have lb := hk2.lt
  have ls := H2.se.lt
  have HX := Lib.hid hx
  have HBk := Lib.hid hk2
  have HB2 := Lib.hid hB2
  have s0 : W2.cell? ⟨M.sg, t * 5, none⟩ = some .nilIface := H2.se.cell (by
    have := thVals_get (M := M) 0 hh 0 (by omega)
    rw [show t * 5 + 0 = t * 5 from rfl] at this
    rw [this]
    show some (tkV M (0 + t) h.task) = _
    rw [hp]
    skip
    rfl)
  have htn : t < m.ths.length := (List.getElem?_eq_some_iff.1 hh).1
  have ntn : (t : Int) < m.ths.length := by omega
  have nt0 : (0 : Int) ≤ t := by omega
  have dt0 : decide ((t : Int) < 0) = false := by simp
  have dtn : decide ((m.ths.length : Int) ≤ t) = false := by simp; omega
  have HM2 := Lib.hid H2
  clear H2 hx hk2 hB2
  obtain ⟨ic, hic, hicz, hics, hicb⟩ := info_parts info_cal
  obtain ⟨Ac, kc, hvc, hk1, hk2⟩ := own_form HM2.out.ca
  dsimp only at hk1 hvc
  obtain ⟨ko, hko, hkk⟩ := HM2.out.kit
  have hl := kit_look hkk (W := W2.drew.drew.drew) hko 123 (by decide)
  rw [show kitF M.cv M.sv 123 = .func (.func 47) #[] #[.pointer (some ⟨M.sv, 0, none⟩)] from rfl] at hl
  have nF := funF_eq (.func 47) #[] #[.pointer (some ⟨M.sv, 0, none⟩)]
  go_region
  all_goals (
    go_upto_region 7 with fail
    go_region
    all_goals (
      go_upto_region 15 with fail
      go_region
      all_goals (
        go_wp2_with fail
        refine (mk123_0 HM2.out.drew.drew.drew hh hsh ⟨t, 123, varg, vdat⟩).mono ?_
        rintro e w3 ⟨g, rfl, hg3, hg4, hb3⟩
        have hM3 := HM2.out.drew.drew.drew.on hb3
        have hB3 := HB2.out.drew.drew.drew.after hb3 (Nat.le_trans hsW HB2.out.size)
        obtain ⟨th3, now3, us3, hx3⟩ := hM3.xb
        have y10 : w3.cell? ⟨M.x, 10, none⟩ = some (.slice Ac m.calls.length kc) := by have := hx3.cell (i := 10) rfl; rw [← hvc]; exact this
        have bk3 := HBk.out.drew.drew.drew.below hb3 HBk.out.lt
        have c0 : w3.cell? ⟨W.heap.size, 0, none⟩ = some (.int .i64 t) := bk3.cell rfl
        have c1 : w3.cell? ⟨W.heap.size, 1, none⟩ = some (.int .i64 123) := bk3.cell rfl
        have c2 : w3.cell? ⟨W.heap.size, 2, none⟩ = some (.int .i64 varg) := bk3.cell rfl
        have c3 : w3.cell? ⟨W.heap.size, 3, none⟩ = some (.int .i64 vdat) := bk3.cell rfl
        have e0 := thVals_get (M := M) 0 hh 0 (by omega)
        have e1 := thVals_get (M := M) 0 hh 1 (by omega)
        have e2 := thVals_get (M := M) 0 hh 2 (by omega)
        have e3 := thVals_get (M := M) 0 hh 3 (by omega)
        have e4 := thVals_get (M := M) 0 hh 4 (by omega)
        have u0 : w3.cell? ⟨M.sg, t * 5, none⟩ = some (tkV M (0 + t) h.task) := hM3.se.cell e0
        have u1 : w3.cell? ⟨M.sg, t * 5 + 1, none⟩ = some (.bool h.ready) := hM3.se.cell e1
        have u2 : w3.cell? ⟨M.sg, t * 5 + 2, none⟩ = some (.int .i64 h.last) := hM3.se.cell e2
        have u3 : w3.cell? ⟨M.sg, t * 5 + 3, none⟩ = some (.int .i64 h.ak) := hM3.se.cell e3
        have u4 : w3.cell? ⟨M.sg, t * 5 + 4, none⟩ = some (.int .i64 h.av) := hM3.se.cell e4
        have v0 := hM3.se.frozen (t * 5)
        have v1 := hM3.se.frozen (t * 5 + 1)
        have v2 := hM3.se.frozen (t * 5 + 2)
        have v3 := hM3.se.frozen (t * 5 + 3)
        have v4 := hM3.se.frozen (t * 5 + 4)
        have nx := hM3.se.blk_ne hx3 (by decide)
        have nb := hM3.se.blk_ne bk3 (by decide)
        have HM3 := Lib.hid hM3
        have HB3 := Lib.hid hB3
        have HX3 := Lib.hid hx3
        have HG3 := Lib.hid hg3
        have HK3 := Lib.hid bk3
        have HN3 := Lib.hid (show ∀ (i : Nat) (h' : Th) (p' : Tp), m.ths[i]? = some h' → h'.task = some p' → M.tb i ≠ g from fun i h' p' h1 h2 e => by have := (HM2.out.tk i h' p' h1 h2).1.lt; rw [e] at this; have h5 : W2.heap.size ≤ g := hg4; omega)
        clear hM3 hB3 hx3 hg3 bk3 hb3 e0 e1 e2 e3 e4
        go_upto_region 22 with fail
        have bk4 : Blk (((((w3.setCell ⟨M.sg, t * 5, none⟩ (.iface (tkP (.shr (-1) 0 false)) (.pointer (some ⟨g, 0, none⟩)))).setCell ⟨M.sg, t * 5 + 1, none⟩ (.bool false)).setCell ⟨M.sg, t * 5 + 2, none⟩ (.int .i64 m.calls.length)).setCell ⟨M.sg, t * 5 + 3, none⟩ (.int .i64 1)).setCell ⟨M.sg, t * 5 + 4, none⟩ (.int .i64 0)) W.heap.size 78 [.int .i64 t, .int .i64 123, .int .i64 varg, .int .i64 vdat] := ((((HK3.out.far nb.symm _).far nb.symm _).far nb.symm _).far nb.symm _).far nb.symm _
        have hx4 : Blk (((((w3.setCell ⟨M.sg, t * 5, none⟩ (.iface (tkP (.shr (-1) 0 false)) (.pointer (some ⟨g, 0, none⟩)))).setCell ⟨M.sg, t * 5 + 1, none⟩ (.bool false)).setCell ⟨M.sg, t * 5 + 2, none⟩ (.int .i64 m.calls.length)).setCell ⟨M.sg, t * 5 + 3, none⟩ (.int .i64 1)).setCell ⟨M.sg, t * 5 + 4, none⟩ (.int .i64 0)) M.x 126 [.pointer (some ⟨M.y, 0, none⟩), .int .i64 th3, .int .i64 now3, .pointer none, .pointer none, .bool us3, .slice none 0 0, .map (some M.kb), .slice (some ⟨M.sg, 0, none⟩) m.ths.length M.sk, .int .i64 (m.moves + 1), M.vc] := ((((HX3.out.far nx.symm _).far nx.symm _).far nx.symm _).far nx.symm _).far nx.symm _
        have ho4 : (((((w3.setCell ⟨M.sg, t * 5, none⟩ (.iface (tkP (.shr (-1) 0 false)) (.pointer (some ⟨g, 0, none⟩)))).setCell ⟨M.sg, t * 5 + 1, none⟩ (.bool false)).setCell ⟨M.sg, t * 5 + 2, none⟩ (.int .i64 m.calls.length)).setCell ⟨M.sg, t * 5 + 3, none⟩ (.int .i64 1)).setCell ⟨M.sg, t * 5 + 4, none⟩ (.int .i64 0)).ownsRow B 62 9 (.slice Ac m.calls.length kc) m.calls.length (calVals m.calls) := by
          have hca := HM3.out.ca
          have hne := own_rw_ne hca HM3.out.se (by decide)
          have := own_setf (own_setf (own_setf (own_setf (own_setf hca (p := ⟨M.sg, t * 5, none⟩) hne (.iface (tkP (.shr (-1) 0 false)) (.pointer (some ⟨g, 0, none⟩)))) (p := ⟨M.sg, t * 5 + 1, none⟩) hne (.bool false)) (p := ⟨M.sg, t * 5 + 2, none⟩) hne (.int .i64 m.calls.length)) (p := ⟨M.sg, t * 5 + 3, none⟩) hne (.int .i64 1)) (p := ⟨M.sg, t * 5 + 4, none⟩) hne (.int .i64 0)
          dsimp only at this
          rw [hvc] at this
          exact this
        have hB4 : Bk B W (((((w3.setCell ⟨M.sg, t * 5, none⟩ (.iface (tkP (.shr (-1) 0 false)) (.pointer (some ⟨g, 0, none⟩)))).setCell ⟨M.sg, t * 5 + 1, none⟩ (.bool false)).setCell ⟨M.sg, t * 5 + 2, none⟩ (.int .i64 m.calls.length)).setCell ⟨M.sg, t * 5 + 3, none⟩ (.int .i64 1)).setCell ⟨M.sg, t * 5 + 4, none⟩ (.int .i64 0)) := HB3.out.seat5 HM3.out.bs HM3.out.se rfl _ _ _ _ _
        have hnx : some M.x ≠ (Value.slice Ac m.calls.length kc).ownBlock := own_blk_ne ho4 hx4 (by decide)
        generalize hw4 : (((((w3.setCell ⟨M.sg, t * 5, none⟩ (.iface (tkP (.shr (-1) 0 false)) (.pointer (some ⟨g, 0, none⟩)))).setCell ⟨M.sg, t * 5 + 1, none⟩ (.bool false)).setCell ⟨M.sg, t * 5 + 2, none⟩ (.int .i64 m.calls.length)).setCell ⟨M.sg, t * 5 + 3, none⟩ (.int .i64 1)).setCell ⟨M.sg, t * 5 + 4, none⟩ (.int .i64 0)) = w4 at bk4 hx4 ho4 hB4 ⊢
        clear c0 c1 c2 c3 u0 u1 u2 u3 u4 v0 v1 v2 v3 v4 nx nb y10
        have c0 : w4.cell? ⟨W.heap.size, 0, none⟩ = some (.int .i64 t) := bk4.cell rfl
        have c1 : w4.cell? ⟨W.heap.size, 1, none⟩ = some (.int .i64 123) := bk4.cell rfl
        have c2 : w4.cell? ⟨W.heap.size, 2, none⟩ = some (.int .i64 varg) := bk4.cell rfl
        have c3 : w4.cell? ⟨W.heap.size, 3, none⟩ = some (.int .i64 vdat) := bk4.cell rfl
        have y10 : w4.cell? ⟨M.x, 10, none⟩ = some (.slice Ac m.calls.length kc) := by have := hx4.cell (i := 10) rfl; rw [← hvc]; exact this
        have l4 := hx4.lt
        have l5 := bk4.lt
        have hsz4 : B ≤ w4.heap.size := Nat.le_trans hsW hB4.size
        have hc9 : m.calls.length ≤ 65536 := by have := HM3.out.nm.2.2; dsimp only at this; omega
        have hc8 : m.calls.length ≤ m.moves := hcl
        have HO4 : Hid (w4.drew.ownsRow B 62 9 (.slice Ac m.calls.length kc) m.calls.length (calVals m.calls)) := ho4
        have HX4 : Hid (Blk w4.drew M.x 126 _) := hx4
        have HB4 := Lib.hid hB4
        have HNX := Lib.hid hnx
        have HW4 := Lib.hid hw4
        have HSo : Hid (∀ W5, Below w4.heap.size w4 W5 → W5.cell? ⟨W.heap.size, 0, none⟩ = some (.int .i64 t) ∧ W5.cell? ⟨W.heap.size, 1, none⟩ = some (.int .i64 123) ∧ W5.cell? ⟨W.heap.size, 2, none⟩ = some (.int .i64 varg) ∧ W5.cell? ⟨W.heap.size, 3, none⟩ = some (.int .i64 vdat)) := fun W5 hb => by
          have hk := bk4.below hb bk4.lt
          exact ⟨hk.cell rfl, hk.cell rfl, hk.cell rfl, hk.cell rfl⟩
        have HK4 := Lib.hid bk4
        clear bk4 hx4 ho4 hB4 hnx hw4
        refine wp_region_held_drew (S := fun W5 => W5.cell? ⟨W.heap.size, 0, none⟩ = some (.int .i64 t) ∧ W5.cell? ⟨W.heap.size, 1, none⟩ = some (.int .i64 123) ∧ W5.cell? ⟨W.heap.size, 2, none⟩ = some (.int .i64 varg) ∧ W5.cell? ⟨W.heap.size, 3, none⟩ = some (.int .i64 vdat)) (by kernel_rfl) ⟨c0, c1, c2, c3⟩ (fun hS => ?_)
        iterate 4 (refine tkF 0 (v := ?_) ?_ ?_; rotate_left; · (intro W hSw; (try dsimp only at hSw); go_simp; try with_reducible rfl); try simp only [Act.put, List.setIfInBounds_toArray, List.set_cons_zero, List.set_cons_succ])
        iterate 10 (refine tkF 5 (v := ?_) ?_ ?_; rotate_left; · (intro W hSw; (try dsimp only at hSw); go_simp; try with_reducible rfl); try simp only [Act.put, List.setIfInBounds_toArray, List.set_cons_zero, List.set_cons_succ])
        have HSa := HSo.out (w4.drew.alloc (.cells (calL ⟨t, 123, varg, vdat, m.moves, -1, -1, 0, 0⟩).toArray 62)) ((Below.refl _ _).drew.alloc (Nat.le_refl _) _)
        refine rd2 4 15 (fun K1 hK1 => ?ga) (fun K1 hK1 => ?gb)
        case' ga =>
          go_simp
          refine hK1.out _ _ hS (fun _ => ?_)
          refine rd 15 fun K2 hK2 => ?_
          go_simp
          refine hK2.out _ _ HSa (fun _ => ?_)
        case' gb =>
          go_simp
          refine hK1.out _ _ HSa (fun _ => ?_)
          refine rd 4 fun K2 hK2 => ?_
          go_simp
          refine hK2.out _ _ HSa (fun _ => ?_)
        all_goals (
          refine rd 16 fun K3 hK3 => ?_
          refine wp_app _ _ _ 35 (by rfl) B 62 ic (.agg #[.int .i64 0, .int .i64 0, .int .i64 0, .int .i64 0, .int .i64 0, .int .i64 0, .int .i64 0, .int .i64 0, .int .i64 0]) 9 72 Try.underlying35 hic hicz hics hicb rfl (by decide) (.slice Ac m.calls.length kc) m.calls.length (calVals m.calls) (by rfl) (HO4.out.alloc _) (w4.heap.size + 1) (some ⟨w4.heap.size, 0, none⟩) 1 1 (calL ⟨t, 123, varg, vdat, m.moves, -1, -1, 0, 0⟩) (by rfl) (((Blk.new w4.drew 62 _).sl rfl).up (by simp)) (cal_one _) (m.calls.length + 1) rfl _ rfl _ rfl (by simp only [maxLen]; omega) (by omega) (by simp <;> omega) ?_
          intro A10 k10 W10 hown10 hg10 hat10 hk10 hk11
          have hy9 := (HX4.out.alloc (.cells (calL ⟨t, 123, varg, vdat, m.moves, -1, -1, 0, 0⟩).toArray 62)).grown hg10 HNX.out
          have d3 : W10.cell? ⟨M.x, 10, none⟩ = some (.slice Ac m.calls.length kc) := by have := hy9.cell (i := 10) rfl; rw [← hvc]; exact this
          have f3 : W10.frozen? ⟨M.x, 10, none⟩ = false := hy9.frozen 10
          have hbk9 := (Blk.alloc (Blk.drew HK4.out) (.cells (calL ⟨t, 123, varg, vdat, m.moves, -1, -1, 0, 0⟩).toArray 62)).grown hg10 (own_blk_ne HO4.out (Blk.drew HK4.out) (by decide))
          have hbk8 := hbk9.far (p := ⟨M.x, 10, none⟩) (hbk9.blk_ne hy9 (by decide)) (.slice A10 (m.calls.length + 1) k10)
          have hgr : (seat5 w3.drew M.sg (t * 5) (.iface (tkP (.shr (-1) 0 false)) (.pointer (some ⟨g, 0, none⟩))) m.calls.length).grownBy W10 M.vc.ownBlock := by
            have e9 : seat5 w3.drew M.sg (t * 5) (.iface (tkP (.shr (-1) 0 false)) (.pointer (some ⟨g, 0, none⟩))) m.calls.length = w4.drew := by rw [← HW4.out]; simp only [seat5, World.setCell_drew]
            rw [e9, show M.vc = _ from hvc]
            exact (World.grownBy_alloc _ _ _).trans hg10
          have HFin := Lib.hid (HM3.out.drew.begun hh HG3.out.drew (Nat.le_trans (Nat.le_trans hsW HB2.out.size) hg4) HN3.out hc8 ⟨t, 123, varg, vdat⟩ hgr hown10)
          have HBf : Hid (Bk B W (W10.setCell ⟨M.x, 10, none⟩ (.slice A10 (m.calls.length + 1) k10))) := ((HB4.out.drew.alloc hsz4 _).grown hg10 (by simp; omega) (fun q hq => (HO4.out.lt q hq).1) (fun q t' cs' hq hk' => by rw [own_type (HO4.out.alloc _) hq hk']; rfl)).setCell (p := ⟨M.x, 10, none⟩) HB.out hy9 rfl _
          refine hK3.out _ _ ⟨hbk9.cell rfl, hbk9.cell rfl, hbk9.cell rfl, hbk9.cell rfl⟩ (fun _ => ?_)
          have HK8 := Lib.hid hbk8
          clear hg10 hown10 hat10 hk10 hk11 hy9 hgr hbk9 hbk8
          iterate 2 (refine tkF 0 (v := ?_) ?_ ?_; rotate_left; · (intro W hSw; (try dsimp only at hSw); go_simp; try with_reducible rfl); try simp only [Act.put, List.setIfInBounds_toArray, List.set_cons_zero, List.set_cons_succ])
          refine rd 19 fun K4 hK4 => ?_
          go_simp
          refine hK4.out _ _ ⟨HK8.out.cell rfl, HK8.out.cell rfl, HK8.out.cell rfl, HK8.out.cell rfl⟩ (fun _ => ?_)
          refine wpAnyH_done (by kernel_rfl) ?_ _
          go_wp2_with fail
          go_ret
          exact ⟨rfl, ⟨{ M with vc := .slice A10 (m.calls.length + 1) k10, tb := fun i => if i = t then g else M.tb i }, rfl, HFin.out⟩, HBf.out⟩))))
set_option maxRecDepth 100000 in
set_option maxHeartbeats 4000000 in
theorem move124_0 (H : MM W B M m) (hlog : m.log.length ≤ m.moves) (hcl : m.calls.length ≤ m.moves) (hm : m.moves < 65536) (hh : m.ths[t]? = some h) (hp : h.task = none) (hal : h.alone = true) (varg vdat : Int) :
    Calls Try.prog 29 #[.pointer (some ⟨M.x, 0, none⟩), .agg #[.int .i64 t, .int .i64 124, .int .i64 varg, .int .i64 vdat]] W (MvR B M W (true, m.begun t h (.tch 0 false) ⟨t, 124, varg, vdat⟩)) := by
  have hn0 : ((m.ths.length : Int) == 0) = false := beq_eq_false_iff_ne.2 (by have := H.nt.1; omega)
  have hm0 : (0 : Int) ≤ m.moves := by omega
  have hsW : B ≤ W.heap.size := by obtain ⟨_, _, _, hx⟩ := H.xb; exact Nat.le_trans H.bx (Nat.le_of_lt hx.lt)
  obtain ⟨th0, now0, us0, hx⟩ := H.xb
  have x8 : W.cell? ⟨M.x, 8, none⟩ = some (.slice (some ⟨M.sg, 0, none⟩) m.ths.length M.sk) := hx.cell rfl
  have x9 : W.cell? ⟨M.x, 9, none⟩ = some (.int .i64 m.moves) := hx.cell rfl
  have f9 := hx.frozen 9
  have lx := hx.lt
  have HB := Lib.hid H.bx
  have hnm := H.nm.2.1
  have hmv : decide ((65536 : Int) ≤ m.moves) = false := by simp; omega
  have H2 := (H.tick (by omega)).on (W' := (W.setCell ⟨M.x, 9, none⟩ (.int .i64 (m.moves + 1))).alloc (.cells #[.int .i64 t, .int .i64 124, .int .i64 varg, .int .i64 vdat] 78)) ((Below.refl _ _).alloc (Nat.le_refl _) _)
  have hB2 : Bk B W ((W.setCell ⟨M.x, 9, none⟩ (.int .i64 (m.moves + 1))).alloc (.cells #[.int .i64 t, .int .i64 124, .int .i64 varg, .int .i64 vdat] 78)) := ((Bk.refl _ _).setCell (p := ⟨M.x, 9, none⟩) H.bx hx rfl _).alloc (by simpa using hsW) _
  have hk2 : Blk ((W.setCell ⟨M.x, 9, none⟩ (.int .i64 (m.moves + 1))).alloc (.cells #[.int .i64 t, .int .i64 124, .int .i64 varg, .int .i64 vdat] 78)) W.heap.size 78 [.int .i64 t, .int .i64 124, .int .i64 varg, .int .i64 vdat] := by
    have := Blk.new (W.setCell ⟨M.x, 9, none⟩ (.int .i64 (m.moves + 1))) 78 [.int .i64 t, .int .i64 124, .int .i64 varg, .int .i64 vdat]
    have hz : (W.setCell ⟨M.x, 9, none⟩ (.int .i64 (m.moves + 1))).heap.size = W.heap.size := by simp
    rw [hz] at this
    exact this
  clear H hx
  go_enter Try.func29, Try.ntmps29
  go_upto_region 5 with fail
  generalize (W.setCell ⟨M.x, 9, none⟩ (.int .i64 (m.moves + 1))).alloc (.cells #[.int .i64 t, .int .i64 124, .int .i64 varg, .int .i64 vdat] 78) = W2 at H2 hB2 hk2 ⊢
  clear x8 x9 f9 lx
  obtain ⟨th1, now1, us1, hx⟩ := H2.xb
  have x8 : W2.cell? ⟨M.x, 8, none⟩ = some (.slice (some ⟨M.sg, 0, none⟩) m.ths.length M.sk) := hx.cell rfl
  have x7 : W2.cell? ⟨M.x, 7, none⟩ = some (.map (some M.kb)) := hx.cell rfl
  have x10 : W2.cell? ⟨M.x, 10, none⟩ = some M.vc := hx.cell rfl
  have fx10 := hx.frozen 10
  have b0 : W2.cell? ⟨W.heap.size, 0, none⟩ = some (.int .i64 t) := hk2.cell rfl
  have b1 : W2.cell? ⟨W.heap.size, 1, none⟩ = some (.int .i64 124) := hk2.cell rfl
  have b2 : W2.cell? ⟨W.heap.size, 2, none⟩ = some (.int .i64 varg) := hk2.cell rfl
  have b3 : W2.cell? ⟨W.heap.size, 3, none⟩ = some (.int .i64 vdat) := hk2.cell rfl
  have lx := hx.lt
  have lb := hk2.lt
  have ls := H2.se.lt
  have HX := Lib.hid hx
  have HBk := Lib.hid hk2
  have HB2 := Lib.hid hB2
  have s0 : W2.cell? ⟨M.sg, t * 5, none⟩ = some .nilIface := H2.se.cell (by
    have := thVals_get (M := M) 0 hh 0 (by omega)
    rw [show t * 5 + 0 = t * 5 from rfl] at this
    rw [this]
    show some (tkV M (0 + t) h.task) = _
    rw [hp]
    skip
    rfl)
  have htn : t < m.ths.length := (List.getElem?_eq_some_iff.1 hh).1
  have ntn : (t : Int) < m.ths.length := by omega
  have nt0 : (0 : Int) ≤ t := by omega
  have dt0 : decide ((t : Int) < 0) = false := by simp
  have dtn : decide ((m.ths.length : Int) ≤ t) = false := by simp; omega
  have HM2 := Lib.hid H2
  clear H2 hx hk2 hB2
  obtain ⟨ic, hic, hicz, hics, hicb⟩ := info_parts info_cal
  obtain ⟨Ac, kc, hvc, hk1, hk2⟩ := own_form HM2.out.ca
  dsimp only at hk1 hvc
  obtain ⟨ko, hko, hkk⟩ := HM2.out.kit
  have hl := kit_look hkk (W := W2.drew.drew.drew) hko 124 (by decide)
  rw [show kitF M.cv M.sv 124 = .func (.func 48) #[] #[.pointer (some ⟨M.sv, 0, none⟩)] from rfl] at hl
  have nF := funF_eq (.func 48) #[] #[.pointer (some ⟨M.sv, 0, none⟩)]
  go_region
  all_goals (
    go_upto_region 7 with fail
    go_region
    all_goals (
      go_upto_region 15 with fail
      go_region
      all_goals (
        go_wp2_with fail
        refine (mk124_0 HM2.out.drew.drew.drew hh hal ⟨t, 124, varg, vdat⟩).mono ?_
        rintro e w3 ⟨g, rfl, hg3, hg4, hb3⟩
        have hM3 := HM2.out.drew.drew.drew.on hb3
        have hB3 := HB2.out.drew.drew.drew.after hb3 (Nat.le_trans hsW HB2.out.size)
        obtain ⟨th3, now3, us3, hx3⟩ := hM3.xb
        have y10 : w3.cell? ⟨M.x, 10, none⟩ = some (.slice Ac m.calls.length kc) := by have := hx3.cell (i := 10) rfl; rw [← hvc]; exact this
        have bk3 := HBk.out.drew.drew.drew.below hb3 HBk.out.lt
        have c0 : w3.cell? ⟨W.heap.size, 0, none⟩ = some (.int .i64 t) := bk3.cell rfl
        have c1 : w3.cell? ⟨W.heap.size, 1, none⟩ = some (.int .i64 124) := bk3.cell rfl
        have c2 : w3.cell? ⟨W.heap.size, 2, none⟩ = some (.int .i64 varg) := bk3.cell rfl
        have c3 : w3.cell? ⟨W.heap.size, 3, none⟩ = some (.int .i64 vdat) := bk3.cell rfl
        have e0 := thVals_get (M := M) 0 hh 0 (by omega)
        have e1 := thVals_get (M := M) 0 hh 1 (by omega)
        have e2 := thVals_get (M := M) 0 hh 2 (by omega)
        have e3 := thVals_get (M := M) 0 hh 3 (by omega)
        have e4 := thVals_get (M := M) 0 hh 4 (by omega)
        have u0 : w3.cell? ⟨M.sg, t * 5, none⟩ = some (tkV M (0 + t) h.task) := hM3.se.cell e0
        have u1 : w3.cell? ⟨M.sg, t * 5 + 1, none⟩ = some (.bool h.ready) := hM3.se.cell e1
        have u2 : w3.cell? ⟨M.sg, t * 5 + 2, none⟩ = some (.int .i64 h.last) := hM3.se.cell e2
        have u3 : w3.cell? ⟨M.sg, t * 5 + 3, none⟩ = some (.int .i64 h.ak) := hM3.se.cell e3
        have u4 : w3.cell? ⟨M.sg, t * 5 + 4, none⟩ = some (.int .i64 h.av) := hM3.se.cell e4
        have v0 := hM3.se.frozen (t * 5)
        have v1 := hM3.se.frozen (t * 5 + 1)
        have v2 := hM3.se.frozen (t * 5 + 2)
        have v3 := hM3.se.frozen (t * 5 + 3)
        have v4 := hM3.se.frozen (t * 5 + 4)
        have nx := hM3.se.blk_ne hx3 (by decide)
        have nb := hM3.se.blk_ne bk3 (by decide)
        have HM3 := Lib.hid hM3
        have HB3 := Lib.hid hB3
        have HX3 := Lib.hid hx3
        have HG3 := Lib.hid hg3
        have HK3 := Lib.hid bk3
        have HN3 := Lib.hid (show ∀ (i : Nat) (h' : Th) (p' : Tp), m.ths[i]? = some h' → h'.task = some p' → M.tb i ≠ g from fun i h' p' h1 h2 e => by have := (HM2.out.tk i h' p' h1 h2).1.lt; rw [e] at this; have h5 : W2.heap.size ≤ g := hg4; omega)
        clear hM3 hB3 hx3 hg3 bk3 hb3 e0 e1 e2 e3 e4
        go_upto_region 22 with fail
        have bk4 : Blk (((((w3.setCell ⟨M.sg, t * 5, none⟩ (.iface (tkP (.tch 0 false)) (.pointer (some ⟨g, 0, none⟩)))).setCell ⟨M.sg, t * 5 + 1, none⟩ (.bool false)).setCell ⟨M.sg, t * 5 + 2, none⟩ (.int .i64 m.calls.length)).setCell ⟨M.sg, t * 5 + 3, none⟩ (.int .i64 1)).setCell ⟨M.sg, t * 5 + 4, none⟩ (.int .i64 0)) W.heap.size 78 [.int .i64 t, .int .i64 124, .int .i64 varg, .int .i64 vdat] := ((((HK3.out.far nb.symm _).far nb.symm _).far nb.symm _).far nb.symm _).far nb.symm _
        have hx4 : Blk (((((w3.setCell ⟨M.sg, t * 5, none⟩ (.iface (tkP (.tch 0 false)) (.pointer (some ⟨g, 0, none⟩)))).setCell ⟨M.sg, t * 5 + 1, none⟩ (.bool false)).setCell ⟨M.sg, t * 5 + 2, none⟩ (.int .i64 m.calls.length)).setCell ⟨M.sg, t * 5 + 3, none⟩ (.int .i64 1)).setCell ⟨M.sg, t * 5 + 4, none⟩ (.int .i64 0)) M.x 126 [.pointer (some ⟨M.y, 0, none⟩), .int .i64 th3, .int .i64 now3, .pointer none, .pointer none, .bool us3, .slice none 0 0, .map (some M.kb), .slice (some ⟨M.sg, 0, none⟩) m.ths.length M.sk, .int .i64 (m.moves + 1), M.vc] := ((((HX3.out.far nx.symm _).far nx.symm _).far nx.symm _).far nx.symm _).far nx.symm _
        have ho4 : (((((w3.setCell ⟨M.sg, t * 5, none⟩ (.iface (tkP (.tch 0 false)) (.pointer (some ⟨g, 0, none⟩)))).setCell ⟨M.sg, t * 5 + 1, none⟩ (.bool false)).setCell ⟨M.sg, t * 5 + 2, none⟩ (.int .i64 m.calls.length)).setCell ⟨M.sg, t * 5 + 3, none⟩ (.int .i64 1)).setCell ⟨M.sg, t * 5 + 4, none⟩ (.int .i64 0)).ownsRow B 62 9 (.slice Ac m.calls.length kc) m.calls.length (calVals m.calls) := by
          have hca := HM3.out.ca
          have hne := own_rw_ne hca HM3.out.se (by decide)
          have := own_setf (own_setf (own_setf (own_setf (own_setf hca (p := ⟨M.sg, t * 5, none⟩) hne (.iface (tkP (.tch 0 false)) (.pointer (some ⟨g, 0, none⟩)))) (p := ⟨M.sg, t * 5 + 1, none⟩) hne (.bool false)) (p := ⟨M.sg, t * 5 + 2, none⟩) hne (.int .i64 m.calls.length)) (p := ⟨M.sg, t * 5 + 3, none⟩) hne (.int .i64 1)) (p := ⟨M.sg, t * 5 + 4, none⟩) hne (.int .i64 0)
          dsimp only at this
          rw [hvc] at this
          exact this
        have hB4 : Bk B W (((((w3.setCell ⟨M.sg, t * 5, none⟩ (.iface (tkP (.tch 0 false)) (.pointer (some ⟨g, 0, none⟩)))).setCell ⟨M.sg, t * 5 + 1, none⟩ (.bool false)).setCell ⟨M.sg, t * 5 + 2, none⟩ (.int .i64 m.calls.length)).setCell ⟨M.sg, t * 5 + 3, none⟩ (.int .i64 1)).setCell ⟨M.sg, t * 5 + 4, none⟩ (.int .i64 0)) := HB3.out.seat5 HM3.out.bs HM3.out.se rfl _ _ _ _ _
        have hnx : some M.x ≠ (Value.slice Ac m.calls.length kc).ownBlock := own_blk_ne ho4 hx4 (by decide)
        generalize hw4 : (((((w3.setCell ⟨M.sg, t * 5, none⟩ (.iface (tkP (.tch 0 false)) (.pointer (some ⟨g, 0, none⟩)))).setCell ⟨M.sg, t * 5 + 1, none⟩ (.bool false)).setCell ⟨M.sg, t * 5 + 2, none⟩ (.int .i64 m.calls.length)).setCell ⟨M.sg, t * 5 + 3, none⟩ (.int .i64 1)).setCell ⟨M.sg, t * 5 + 4, none⟩ (.int .i64 0)) = w4 at bk4 hx4 ho4 hB4 ⊢
        clear c0 c1 c2 c3 u0 u1 u2 u3 u4 v0 v1 v2 v3 v4 nx nb y10
        have c0 : w4.cell? ⟨W.heap.size, 0, none⟩ = some (.int .i64 t) := bk4.cell rfl
        have c1 : w4.cell? ⟨W.heap.size, 1, none⟩ = some (.int .i64 124) := bk4.cell rfl
        have c2 : w4.cell? ⟨W.heap.size, 2, none⟩ = some (.int .i64 varg) := bk4.cell rfl
        have c3 : w4.cell? ⟨W.heap.size, 3, none⟩ = some (.int .i64 vdat) := bk4.cell rfl
        have y10 : w4.cell? ⟨M.x, 10, none⟩ = some (.slice Ac m.calls.length kc) := by have := hx4.cell (i := 10) rfl; rw [← hvc]; exact this
        have l4 := hx4.lt
        have l5 := bk4.lt
        have hsz4 : B ≤ w4.heap.size := Nat.le_trans hsW hB4.size
        have hc9 : m.calls.length ≤ 65536 := by have := HM3.out.nm.2.2; dsimp only at this; omega
        have hc8 : m.calls.length ≤ m.moves := hcl
        have HO4 : Hid (w4.drew.ownsRow B 62 9 (.slice Ac m.calls.length kc) m.calls.length (calVals m.calls)) := ho4
        have HX4 : Hid (Blk w4.drew M.x 126 _) := hx4
        have HB4 := Lib.hid hB4
        have HNX := Lib.hid hnx
        have HW4 := Lib.hid hw4
        have HSo : Hid (∀ W5, Below w4.heap.size w4 W5 → W5.cell? ⟨W.heap.size, 0, none⟩ = some (.int .i64 t) ∧ W5.cell? ⟨W.heap.size, 1, none⟩ = some (.int .i64 124) ∧ W5.cell? ⟨W.heap.size, 2, none⟩ = some (.int .i64 varg) ∧ W5.cell? ⟨W.heap.size, 3, none⟩ = some (.int .i64 vdat)) := fun W5 hb => by
          have hk := bk4.below hb bk4.lt
          exact ⟨hk.cell rfl, hk.cell rfl, hk.cell rfl, hk.cell rfl⟩
        have HK4 := Lib.hid bk4
        clear bk4 hx4 ho4 hB4 hnx hw4
        refine wp_region_held_drew (S := fun W5 => W5.cell? ⟨W.heap.size, 0, none⟩ = some (.int .i64 t) ∧ W5.cell? ⟨W.heap.size, 1, none⟩ = some (.int .i64 124) ∧ W5.cell? ⟨W.heap.size, 2, none⟩ = some (.int .i64 varg) ∧ W5.cell? ⟨W.heap.size, 3, none⟩ = some (.int .i64 vdat)) (by kernel_rfl) ⟨c0, c1, c2, c3⟩ (fun hS => ?_)
        iterate 4 (refine tkF 0 (v := ?_) ?_ ?_; rotate_left; · (intro W hSw; (try dsimp only at hSw); go_simp; try with_reducible rfl); try simp only [Act.put, List.setIfInBounds_toArray, List.set_cons_zero, List.set_cons_succ])
        iterate 10 (refine tkF 5 (v := ?_) ?_ ?_; rotate_left; · (intro W hSw; (try dsimp only at hSw); go_simp; try with_reducible rfl); try simp only [Act.put, List.setIfInBounds_toArray, List.set_cons_zero, List.set_cons_succ])
        have HSa := HSo.out (w4.drew.alloc (.cells (calL ⟨t, 124, varg, vdat, m.moves, -1, -1, 0, 0⟩).toArray 62)) ((Below.refl _ _).drew.alloc (Nat.le_refl _) _)
        refine rd2 4 15 (fun K1 hK1 => ?ga) (fun K1 hK1 => ?gb)
        case' ga =>
          go_simp
          refine hK1.out _ _ hS (fun _ => ?_)
          refine rd 15 fun K2 hK2 => ?_
          go_simp
          refine hK2.out _ _ HSa (fun _ => ?_)
        case' gb =>
          go_simp
          refine hK1.out _ _ HSa (fun _ => ?_)
          refine rd 4 fun K2 hK2 => ?_
          go_simp
          refine hK2.out _ _ HSa (fun _ => ?_)
        all_goals (
          refine rd 16 fun K3 hK3 => ?_
          refine wp_app _ _ _ 35 (by rfl) B 62 ic (.agg #[.int .i64 0, .int .i64 0, .int .i64 0, .int .i64 0, .int .i64 0, .int .i64 0, .int .i64 0, .int .i64 0, .int .i64 0]) 9 72 Try.underlying35 hic hicz hics hicb rfl (by decide) (.slice Ac m.calls.length kc) m.calls.length (calVals m.calls) (by rfl) (HO4.out.alloc _) (w4.heap.size + 1) (some ⟨w4.heap.size, 0, none⟩) 1 1 (calL ⟨t, 124, varg, vdat, m.moves, -1, -1, 0, 0⟩) (by rfl) (((Blk.new w4.drew 62 _).sl rfl).up (by simp)) (cal_one _) (m.calls.length + 1) rfl _ rfl _ rfl (by simp only [maxLen]; omega) (by omega) (by simp <;> omega) ?_
          intro A10 k10 W10 hown10 hg10 hat10 hk10 hk11
          have hy9 := (HX4.out.alloc (.cells (calL ⟨t, 124, varg, vdat, m.moves, -1, -1, 0, 0⟩).toArray 62)).grown hg10 HNX.out
          have d3 : W10.cell? ⟨M.x, 10, none⟩ = some (.slice Ac m.calls.length kc) := by have := hy9.cell (i := 10) rfl; rw [← hvc]; exact this
          have f3 : W10.frozen? ⟨M.x, 10, none⟩ = false := hy9.frozen 10
          have hbk9 := (Blk.alloc (Blk.drew HK4.out) (.cells (calL ⟨t, 124, varg, vdat, m.moves, -1, -1, 0, 0⟩).toArray 62)).grown hg10 (own_blk_ne HO4.out (Blk.drew HK4.out) (by decide))
          have hbk8 := hbk9.far (p := ⟨M.x, 10, none⟩) (hbk9.blk_ne hy9 (by decide)) (.slice A10 (m.calls.length + 1) k10)
          have hgr : (seat5 w3.drew M.sg (t * 5) (.iface (tkP (.tch 0 false)) (.pointer (some ⟨g, 0, none⟩))) m.calls.length).grownBy W10 M.vc.ownBlock := by
            have e9 : seat5 w3.drew M.sg (t * 5) (.iface (tkP (.tch 0 false)) (.pointer (some ⟨g, 0, none⟩))) m.calls.length = w4.drew := by rw [← HW4.out]; simp only [seat5, World.setCell_drew]
            rw [e9, show M.vc = _ from hvc]
            exact (World.grownBy_alloc _ _ _).trans hg10
          have HFin := Lib.hid (HM3.out.drew.begun hh HG3.out.drew (Nat.le_trans (Nat.le_trans hsW HB2.out.size) hg4) HN3.out hc8 ⟨t, 124, varg, vdat⟩ hgr hown10)
          have HBf : Hid (Bk B W (W10.setCell ⟨M.x, 10, none⟩ (.slice A10 (m.calls.length + 1) k10))) := ((HB4.out.drew.alloc hsz4 _).grown hg10 (by simp; omega) (fun q hq => (HO4.out.lt q hq).1) (fun q t' cs' hq hk' => by rw [own_type (HO4.out.alloc _) hq hk']; rfl)).setCell (p := ⟨M.x, 10, none⟩) HB.out hy9 rfl _
          refine hK3.out _ _ ⟨hbk9.cell rfl, hbk9.cell rfl, hbk9.cell rfl, hbk9.cell rfl⟩ (fun _ => ?_)
          have HK8 := Lib.hid hbk8
          clear hg10 hown10 hat10 hk10 hk11 hy9 hgr hbk9 hbk8
          iterate 2 (refine tkF 0 (v := ?_) ?_ ?_; rotate_left; · (intro W hSw; (try dsimp only at hSw); go_simp; try with_reducible rfl); try simp only [Act.put, List.setIfInBounds_toArray, List.set_cons_zero, List.set_cons_succ])
          refine rd 19 fun K4 hK4 => ?_
          go_simp
          refine hK4.out _ _ ⟨HK8.out.cell rfl, HK8.out.cell rfl, HK8.out.cell rfl, HK8.out.cell rfl⟩ (fun _ => ?_)
          refine wpAnyH_done (by kernel_rfl) ?_ _
          go_wp2_with fail
          go_ret
          exact ⟨rfl, ⟨{ M with vc := .slice A10 (m.calls.length + 1) k10, tb := fun i => if i = t then g else M.tb i }, rfl, HFin.out⟩, HBf.out⟩))))
end
end Go.Proofs.Ytjnmlgfkiebkgaa
