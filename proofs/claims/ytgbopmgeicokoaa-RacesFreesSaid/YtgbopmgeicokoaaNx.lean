/-
  tso.Next, under sequential consistency with empty buffers.
-/
import Derived.Test.YtgbopmgeicokoaaTurn
import Derived.Test.YtgbopmgeicokoaaWAt
namespace Go.Proofs.Ytgbopmgeicokoaa
open Go.RowKit
set_option linter.unusedVariables false
set_option linter.unusedSimpArgs false

theorem results_c1t2 {P : Program} {fn : Func} {p u v : Tmp} {ty : TypeId} (h : fn.results = #[.cell p ty, .tmp u, .tmp v]) (tmps : Array Value) (w : World) (g : Nat) (t : TypeId) (cs : Array Value) (fr : Nat × Nat) (d : TypeDesc)
    (hp : tmps.getD p undef = .pointer (some ⟨g, 0, none⟩)) (hg : w.heap[g]? = some (.cells cs t fr))
    (hu : P.underlying ty = some d) (hd : (match d with | .struct _ | .array _ _ => true | _ => false) = true) (hi : (P.info? ty).map (·.size) = some cs.size) :
    (results fn tmps).run P w = .ok (.tuple #[.agg cs, tmps.getD u undef, tmps.getD v undef]) w := by
  simp only [results, h]
  simp only [Array.getD_eq_getD_getElem?] at hp
  simp [Sem.run_bind, Result.andThen, hp, asAddr, run_loadVar_row w g t ty cs fr d hg hu hd hi]
theorem results_c2t1 {P : Program} {fn : Func} {p q v : Tmp} {ty ty2 : TypeId} (h : fn.results = #[.cell p ty, .cell q ty2, .tmp v]) (tmps : Array Value) (w : World) (g g2 : Nat) (t t2 : TypeId) (cs cs2 : Array Value) (fr fr2 : Nat × Nat) (d d2 : TypeDesc)
    (hp : tmps.getD p undef = .pointer (some ⟨g, 0, none⟩)) (hg : w.heap[g]? = some (.cells cs t fr))
    (hu : P.underlying ty = some d) (hd : (match d with | .struct _ | .array _ _ => true | _ => false) = true) (hi : (P.info? ty).map (·.size) = some cs.size)
    (hp2 : tmps.getD q undef = .pointer (some ⟨g2, 0, none⟩)) (hg2 : w.heap[g2]? = some (.cells cs2 t2 fr2))
    (hu2 : P.underlying ty2 = some d2) (hd2 : (match d2 with | .struct _ | .array _ _ => true | _ => false) = true) (hi2 : (P.info? ty2).map (·.size) = some cs2.size) :
    (results fn tmps).run P w = .ok (.tuple #[.agg cs, .agg cs2, tmps.getD v undef]) w := by
  simp only [results, h]
  simp only [Array.getD_eq_getD_getElem?] at hp hp2
  simp [Sem.run_bind, Result.andThen, hp, hp2, asAddr, run_loadVar_row w g t ty cs fr d hg hu hd hi, run_loadVar_row w g2 t2 ty2 cs2 fr2 d2 hg2 hu2 hd2 hi2]
def NxtR (l : Lit) (S : LS) (u : Tn) (w : World) (e : Ending) (w' : World) : Prop := ∃ h', e = .returned (.tuple #[stV h' l.tn l.wn, .bool (pickS l S u).isSome, .int .i64 0]) ∧ NewS w.heap.size h' ∧ StAt w' h' l.tn l.wn (turnS l S u) ∧ Below w.heap.size w w'
/-- a turn, whether it does anything or not -/
theorem turn_any (l : Lit) (w : World) (gs : Nat) (h : SH) (S : LS) (u : Tn) (hl : LitAt w w.heap.size l) (hs : StAt w h l.tn l.wn S) (hb : Blk w gs 113 (stL h l.tn l.wn)) (hg : GoodS l S) (hok : okLit l = true) :
    Calls Try.prog 140 #[litV l, .int .i64 1, .pointer (some ⟨gs, 0, none⟩), tnV u] w (WkR h l.tn l.wn (turnS l S u) (pickS l S u).isSome w) := by
  cases hp : pickS l S u with
  | some x => exact turn_yes l w gs h S u x hl hs hb hg hok hp
  | none =>
    refine (turn_no l w gs h S u hl hs hb hg hok hp).mono ?_
    rintro e w' ⟨rfl, hb9⟩
    have : turnS l S u = S := by unfold turnS; rw [hp]
    rw [this]
    exact ⟨rfl, hs.on hb9, Fr.of hb9⟩

set_option maxRecDepth 100000 in
set_option maxHeartbeats 8000000 in
theorem next_any (l : Lit) (w : World) (h : SH) (S : LS) (u : Tn) (hl : LitAt w w.heap.size l) (hs : StAt w h l.tn l.wn S) (hg : GoodS l S) (hok : okLit l = true) :
    Calls Try.prog 122 #[litV l, .int .i64 1, stV h l.tn l.wn, tnV u] w (NxtR l S u w) := by
  obtain ⟨n1, n2, n3, n4⟩ := okLit_num hok
  obtain ⟨w0, hw0⟩ : ∃ w0 : World, w0 = ((((w.alloc (.cells #[.slice l.wA l.wn l.wk, .slice l.tA l.tn l.tk] 101)).alloc (.cells #[.slice (some ⟨h.gw, 0, none⟩) l.wn h.kw, .slice (some ⟨h.gr, 0, none⟩) l.tn h.kr, .slice (some ⟨h.gp, 0, none⟩) l.tn h.kp, .slice (some ⟨h.gb, 0, none⟩) l.tn h.kb] 113)).alloc (.cells #[.int .i64 u.t, .bool u.out, .int .i64 u.a] 131)).alloc (.cells #[.slice none 0 0, .slice none 0 0, .slice none 0 0, .slice none 0 0] 113)) := ⟨_, rfl⟩
  have HL0 : Hid (Blk w0 w.heap.size 101 (litL l)) := by rw [hw0]; exact (((Blk.new w 101 (litL l)).alloc _).alloc _).alloc _
  have HX0 : Hid (Blk w0 (w.heap.size + 1) 113 (stL h l.tn l.wn)) := by
    rw [hw0]
    have h9 := ((Blk.new (w.alloc (.cells #[.slice l.wA l.wn l.wk, .slice l.tA l.tn l.tk] 101)) 113 (stL h l.tn l.wn)).alloc (.cells #[.int .i64 u.t, .bool u.out, .int .i64 u.a] 131)).alloc (.cells #[.slice none 0 0, .slice none 0 0, .slice none 0 0, .slice none 0 0] 113)
    rw [World.size_alloc] at h9
    exact h9
  have HU0 : Hid (Blk w0 (w.heap.size + 1 + 1) 131 (tnL u)) := by
    rw [hw0]
    have h9 := (Blk.new ((w.alloc (.cells #[.slice l.wA l.wn l.wk, .slice l.tA l.tn l.tk] 101)).alloc (.cells #[.slice (some ⟨h.gw, 0, none⟩) l.wn h.kw, .slice (some ⟨h.gr, 0, none⟩) l.tn h.kr, .slice (some ⟨h.gp, 0, none⟩) l.tn h.kp, .slice (some ⟨h.gb, 0, none⟩) l.tn h.kb] 113)) 131 (tnL u)).alloc (.cells #[.slice none 0 0, .slice none 0 0, .slice none 0 0, .slice none 0 0] 113)
    rw [World.size_alloc, World.size_alloc] at h9
    exact h9
  have HZ0 : Hid (Blk w0 (w.heap.size + 1 + 1 + 1) 113 [.slice none 0 0, .slice none 0 0, .slice none 0 0, .slice none 0 0]) := by
    rw [hw0]
    have h9 := Blk.new (((w.alloc (.cells #[.slice l.wA l.wn l.wk, .slice l.tA l.tn l.tk] 101)).alloc (.cells #[.slice (some ⟨h.gw, 0, none⟩) l.wn h.kw, .slice (some ⟨h.gr, 0, none⟩) l.tn h.kr, .slice (some ⟨h.gp, 0, none⟩) l.tn h.kp, .slice (some ⟨h.gb, 0, none⟩) l.tn h.kb] 113)).alloc (.cells #[.int .i64 u.t, .bool u.out, .int .i64 u.a] 131)) 113 [.slice none 0 0, .slice none 0 0, .slice none 0 0, .slice none 0 0]
    rw [World.size_alloc, World.size_alloc, World.size_alloc] at h9
    exact h9
  have HW0 : Hid (Below w.heap.size w w0) := by rw [hw0]; exact ((((Below.refl _ _).alloc (Nat.le_refl _) _).alloc (by simp) _).alloc (by simp; omega) _).alloc (by simp; omega) _
  have HL := Lib.hid hl
  have HS := Lib.hid hs
  have HG := Lib.hid hg
  have HOk := Lib.hid hok
  have HWe := Lib.hid hw0
  have hz0 : w.heap.size + 1 + 1 + 1 < w0.heap.size := HZ0.out.lt
  have d1 : ((0 : Int) != 0) = false := rfl
  clear hw0 hl hs hg hok
  go_enter Try.func122, Try.ntmps122
  go_upto_region 1 with fail
  rw [← HWe.out]
  clear HWe
  have q0 : w0.cell? ⟨w.heap.size, 0, none⟩ = some (.slice l.wA l.wn l.wk) := HL0.out.cell rfl
  have q1 : w0.cell? ⟨w.heap.size, 1, none⟩ = some (.slice l.tA l.tn l.tk) := HL0.out.cell rfl
  go_wp2_with fail
  refine (look_any l w0 ((HL.out.keep HW0.out).up HW0.out.size)).mono ?_
  rintro e w1 ⟨rfl, hb1⟩
  rw [litErr_ok HOk.out]
  have HL1 := Lib.hid (HL0.out.below hb1 HL0.out.lt)
  have HX1 := Lib.hid (HX0.out.below hb1 HX0.out.lt)
  have HU1 := Lib.hid (HU0.out.below hb1 HU0.out.lt)
  have HZ1 := Lib.hid (HZ0.out.below hb1 HZ0.out.lt)
  have HW1 := Lib.hid (HW0.out.trans (hb1.mono HW0.out.size))
  have hz1 := hb1.size
  clear hb1 HL0 HX0 HU0 HZ0 HW0 q0 q1
  have q0 : w1.cell? ⟨w.heap.size, 0, none⟩ = some (.slice l.wA l.wn l.wk) := HL1.out.cell rfl
  have q1 : w1.cell? ⟨w.heap.size, 1, none⟩ = some (.slice l.tA l.tn l.tk) := HL1.out.cell rfl
  have s0 : w1.cell? ⟨w.heap.size + 1, 0, none⟩ = some (.slice (some ⟨h.gw, 0, none⟩) l.wn h.kw) := HX1.out.cell rfl
  have s1 : w1.cell? ⟨w.heap.size + 1, 1, none⟩ = some (.slice (some ⟨h.gr, 0, none⟩) l.tn h.kr) := HX1.out.cell rfl
  have s2 : w1.cell? ⟨w.heap.size + 1, 2, none⟩ = some (.slice (some ⟨h.gp, 0, none⟩) l.tn h.kp) := HX1.out.cell rfl
  have s3 : w1.cell? ⟨w.heap.size + 1, 3, none⟩ = some (.slice (some ⟨h.gb, 0, none⟩) l.tn h.kb) := HX1.out.cell rfl
  go_wp2_with fail
  refine (belongs_any l w1 h S ((HL.out.keep HW1.out).up HW1.out.size) (HS.out.on HW1.out) HG.out HOk.out).mono ?_
  rintro e w2 ⟨rfl, hb2⟩
  have HL2 := Lib.hid (HL1.out.below hb2 HL1.out.lt)
  have HX2 := Lib.hid (HX1.out.below hb2 HX1.out.lt)
  have HU2 := Lib.hid (HU1.out.below hb2 HU1.out.lt)
  have HZ2 := Lib.hid (HZ1.out.below hb2 HZ1.out.lt)
  have HW2 := Lib.hid (HW1.out.trans (hb2.mono HW1.out.size))
  have hz2 := hb2.size
  clear hb2 HL1 HX1 HU1 HZ1 q0 q1 s0 s1 s2 s3
  have s0 : w2.cell? ⟨w.heap.size + 1, 0, none⟩ = some (.slice (some ⟨h.gw, 0, none⟩) l.wn h.kw) := HX2.out.cell rfl
  have s1 : w2.cell? ⟨w.heap.size + 1, 1, none⟩ = some (.slice (some ⟨h.gr, 0, none⟩) l.tn h.kr) := HX2.out.cell rfl
  have s2 : w2.cell? ⟨w.heap.size + 1, 2, none⟩ = some (.slice (some ⟨h.gp, 0, none⟩) l.tn h.kp) := HX2.out.cell rfl
  have s3 : w2.cell? ⟨w.heap.size + 1, 3, none⟩ = some (.slice (some ⟨h.gb, 0, none⟩) l.tn h.kb) := HX2.out.cell rfl
  go_wp2_with fail
  refine (copied_any h l.tn l.wn S w2 (HS.out.on HW2.out) n1 n2 n3 n4).mono ?_
  rintro e w3 ⟨h3, rfl, hnew, hst3, hb3⟩
  have HL3 := Lib.hid (HL2.out.below hb3 HL2.out.lt)
  have HX3 := Lib.hid (HX2.out.below hb3 HX2.out.lt)
  have HU3 := Lib.hid (HU2.out.below hb3 HU2.out.lt)
  have HZ3 := Lib.hid (HZ2.out.below hb3 HZ2.out.lt)
  have HW3 := Lib.hid (HW2.out.trans (hb3.mono HW2.out.size))
  have hz3 := hb3.size
  clear HL2 HX2 HU2 HZ2 s0 s1 s2 s3
  have HNew := Lib.hid hnew
  have HSt3 := Lib.hid hst3
  clear hnew hst3 hb3
  rename_i hk
  refine hk _ _ ?_
  clear hk
  go_upto_region 7 with fail
  obtain ⟨gc, hgc⟩ : ∃ gc, gc = w3.heap.size := ⟨_, rfl⟩
  obtain ⟨w4, hw4, HC4, hb4⟩ : ∃ Z9, Z9 = w3.alloc (.cells #[.slice (some ⟨h3.gw, 0, none⟩) l.wn h3.kw, .slice (some ⟨h3.gr, 0, none⟩) l.tn h3.kr, .slice (some ⟨h3.gp, 0, none⟩) l.tn h3.kp, .slice (some ⟨h3.gb, 0, none⟩) l.tn h3.kb] 113) ∧ Hid (Blk Z9 gc 113 (stL h3 l.tn l.wn)) ∧ Below w3.heap.size w3 Z9 := ⟨_, rfl, by rw [hgc]; exact Blk.new _ _ _, (Below.refl _ _).alloc (Nat.le_refl _) _⟩
  rw [← hw4, ← hgc]
  have HL4 := Lib.hid (HL3.out.below hb4 HL3.out.lt)
  have HX4 := Lib.hid (HX3.out.below hb4 HX3.out.lt)
  have HU4 := Lib.hid (HU3.out.below hb4 HU3.out.lt)
  have HZ4 := Lib.hid (HZ3.out.below hb4 HZ3.out.lt)
  have HW4 := Lib.hid (HW3.out.trans (hb4.mono HW3.out.size))
  have hz4 := hb4.size
  have HSt4 := Lib.hid (HSt3.out.on hb4)
  have hgc4 : w.heap.size + 1 + 1 + 1 < gc := by rw [hgc]; exact HZ3.out.lt
  clear hb4 hw4 hgc HSt3
  have q0 : w4.cell? ⟨w.heap.size, 0, none⟩ = some (.slice l.wA l.wn l.wk) := HL4.out.cell rfl
  have q1 : w4.cell? ⟨w.heap.size, 1, none⟩ = some (.slice l.tA l.tn l.tk) := HL4.out.cell rfl
  have u0 : w4.cell? ⟨w.heap.size + 1 + 1, 0, none⟩ = some (.int .i64 u.t) := HU4.out.cell rfl
  have u1 : w4.cell? ⟨w.heap.size + 1 + 1, 1, none⟩ = some (.bool u.out) := HU4.out.cell rfl
  have u2 : w4.cell? ⟨w.heap.size + 1 + 1, 2, none⟩ = some (.int .i64 u.a) := HU4.out.cell rfl
  go_wp2_with fail
  refine (turn_any l w4 gc h3 S u ((HL.out.keep HW4.out).up HW4.out.size) HSt4.out HC4.out HG.out HOk.out).mono ?_
  rintro e w5 ⟨rfl, hst5, hfr⟩
  have hsf : ∀ q, SF h3 q → w2.heap.size ≤ q := by
    have := HNew.out
    rintro q (e | e | e)
    · rw [e]; exact this.1
    · rw [e]; exact this.2.1
    · rw [e]; exact this.2.2.1
  have hb5 : Below w2.heap.size w4 w5 := hfr.to_below (by have := HW4.out.size; omega) hsf
  have HC5 : Hid (Blk w5 gc 113 (stL h3 l.tn l.wn)) := HC4.out.kept (hfr.block gc HC4.out.lt (by
    rintro (e | e | e)
    · exact HSt4.out.w.ne HC4.out (by decide) e
    · exact HSt4.out.r.ne HC4.out (by decide) e
    · exact HSt4.out.p.ne HC4.out (by decide) e))
  have HZ5 := Lib.hid (HZ4.out.below hb5 (by omega))
  have HW5 := Lib.hid (HW4.out.trans (hb5.mono (by omega)))
  have HSt5 := Lib.hid hst5
  clear hfr hst5 hb5 q0 q1 u0 u1 u2
  go_upto_region 8 with fail
  refine wp_region_lit ?_
  refine wpList_load_row rfl _ _ rfl gc rfl 113 _ (0, 0) _ HC5.out Try.underlying113 rfl size_lst ?_
  go_wp2_with (refine wpList_store_row rfl _ _ _ rfl (w.heap.size + 1 + 1 + 1) #[.slice (some ⟨h3.gw, 0, none⟩) l.wn h3.kw, .slice (some ⟨h3.gr, 0, none⟩) l.tn h3.kr, .slice (some ⟨h3.gp, 0, none⟩) l.tn h3.kp, .slice (some ⟨h3.gb, 0, none⟩) l.tn h3.kb] rfl rfl 113 _ HZ5.out size_lst rfl (lst_one _ _ _ _ _ _ _ _ _ _ _ _) ?_)
  (try simp only [Act.put])
  go_wp2_with fail
  have HR := Lib.hid (setRow_heap w5 (w.heap.size + 1 + 1 + 1) _ #[.slice (some ⟨h3.gw, 0, none⟩) l.wn h3.kw, .slice (some ⟨h3.gr, 0, none⟩) l.tn h3.kr, .slice (some ⟨h3.gp, 0, none⟩) l.tn h3.kp, .slice (some ⟨h3.gb, 0, none⟩) l.tn h3.kb] _ _ HZ5.out)
  refine bodyPost_ret_by (results_c1t2 rfl _ _ (w.heap.size + 1 + 1 + 1) 113 _ (0, 0) _ rfl HR.out Try.underlying113 rfl size_lst) rfl ?_
  have hn := HNew.out
  have hs2 := HW2.out.size
  refine ⟨h3, rfl, ⟨Nat.le_trans hs2 hn.1, Nat.le_trans hs2 hn.2.1, Nat.le_trans hs2 hn.2.2.1, Nat.le_trans hs2 hn.2.2.2⟩, ?_, rowB HW5.out (by omega)⟩
  obtain ⟨m1, m2, m3, m4⟩ := hn
  exact ⟨HSt5.out.w.kept (rowK (by omega)), HSt5.out.r.kept (rowK (by omega)), HSt5.out.p.kept (rowK (by omega)), HSt5.out.b.kept (rowK (by omega)), HSt5.out.ne⟩
end Go.Proofs.Ytgbopmgeicokoaa
