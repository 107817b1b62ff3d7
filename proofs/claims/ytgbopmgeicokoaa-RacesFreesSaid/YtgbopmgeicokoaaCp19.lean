/-
  reclaimref19.Copy: a state in memory of its own.
-/
import Derived.Test.YtgbopmgeicokoaaFl19
import Derived.Test.YtgbopmgeicokoaaRst0
namespace Go.Proofs.Ytgbopmgeicokoaa
open Go.RowKit

/-- append of nothing onto nothing -/
theorem wpList_app_nil {P : Program} {w : World} {ops : Array Oper} {rest : List Oper} {o : Oper} {a : Act} {Q : Exit → Act → World → Prop} (hgd : o.guard = none) (s x : Operand) (t e : TypeId)
    (ho : o.op = .call { callee := .builtin .append, args := #[s, x], argTypes := #[t, t] }) (i : TypeInfo) (ht : P.underlying t = some (.slice e)) (hi : P.info? e = some i)
    (hv : a.eval s = .slice none 0 0) (hx : a.eval x = .slice none 0 0) (h : wpList P ops Q rest (a.put o.dst (.slice none 0 0)) w) : wpList P ops Q (o :: rest) a w :=
  wpList_plain hgd fun _ hK => by
    have hrun : (Builtin.append_ #[t, t] o.type #[.slice none 0 0, .slice none 0 0]).run P w = .ok (.slice none 0 0) w := by
      simp [Builtin.append_, run_underlying ht, sizeOf, typeInfo, hi, Builtin.lenOf, Builtin.firstCells]
    unfold Oper.wp execOp
    simp only [ho, resolve, invoke, builtin, Sem.run_bind, Sem.run_pure, Result.andThen_ok, List.map_toArray, List.map_cons, List.map_nil, hv, hx, hrun]
    exact hK _ _ h
theorem info_pn : (Try.prog.info? 280).map (·.size) = some 2 := by kernel_rfl
theorem info_r4 : (Try.prog.info? 173).map (fun i => (i.zero, i.size, i.bytes)) = some (some (.agg #[.int .i64 0, .int .i64 0, .int .i64 0, .int .i64 0]), 4, 32) := by kernel_rfl
theorem natsI_oneC {l : List Nat} : ∀ u ∈ natsI l, u.oneCell' = true := by
  intro u hu
  obtain ⟨x, _, rfl⟩ := List.mem_map.1 hu
  rfl
theorem gbn {B : Nat} {a w w' : World} (h : Below B a w) (hg : w.grownBy w' none) (hB : B ≤ w.heap.size) : Below B a w' := h.grown hg hB (fun q hq => by cases hq)

set_option maxRecDepth 100000 in
set_option maxHeartbeats 16000000 in
theorem copy19_any (h : SH) (n nw : Nat) (S : LS) (w : World) (hs : StAt w h n nw S) (hn1 : 1 ≤ n) (hn4 : n ≤ 4) (hw1 : 1 ≤ nw) (hw6 : nw ≤ 6) :
    Calls Try.prog 129 #[stV h n nw] w (CpdR n nw S w) := by
  obtain ⟨wA, hwA⟩ : ∃ wA : World, wA = (w.alloc (.cells #[.slice (some ⟨h.gw, 0, none⟩) nw h.kw, .slice (some ⟨h.gr, 0, none⟩) n h.kr, .slice (some ⟨h.gp, 0, none⟩) n h.kp, .slice (some ⟨h.gb, 0, none⟩) n h.kb] 113)).alloc (.cells #[.slice none 0 0, .slice none 0 0, .slice none 0 0, .slice none 0 0] 113) := ⟨_, rfl⟩
  obtain ⟨gt, hgt⟩ : ∃ gt, gt = wA.heap.size := ⟨_, rfl⟩
  have hgw : gt = w.heap.size + 1 + 1 := by rw [hgt, hwA, World.size_alloc, World.size_alloc]
  obtain ⟨w0, hw0⟩ : ∃ w0 : World, w0 = wA.alloc (.cells #[.slice none 0 0, .slice none 0 0, .slice none 0 0, .slice none 0 0] 113) := ⟨_, rfl⟩
  have HB : Hid (Blk wA w.heap.size 113 (stL h n nw)) := by rw [hwA]; exact Lib.hid ((Blk.new w 113 (stL h n nw)).alloc _)
  have HZ : Hid (Blk wA (w.heap.size + 1) 113 [.slice none 0 0, .slice none 0 0, .slice none 0 0, .slice none 0 0]) := by
    rw [hwA]
    have h9 := Blk.new (w.alloc (.cells #[.slice (some ⟨h.gw, 0, none⟩) nw h.kw, .slice (some ⟨h.gr, 0, none⟩) n h.kr, .slice (some ⟨h.gp, 0, none⟩) n h.kp, .slice (some ⟨h.gb, 0, none⟩) n h.kb] 113)) 113 [.slice none 0 0, .slice none 0 0, .slice none 0 0, .slice none 0 0]
    rw [World.size_alloc] at h9
    exact Lib.hid h9
  have HWA : Hid (Below w.heap.size w wA) := by rw [hwA]; exact Lib.hid (((Below.refl _ _).alloc (Nat.le_refl _) _).alloc (by simp) _)
  have HS := Lib.hid (hs.on HWA.out)
  have HX0 : Hid (Below wA.heap.size wA w0) := by rw [hw0]; exact Lib.hid ((Below.refl _ _).alloc (Nat.le_refl _) _)
  have HT0 : Hid (Blk w0 gt 113 [.slice none 0 0, .slice none 0 0, .slice none 0 0, .slice none 0 0]) := by rw [hw0, hgt]; exact Lib.hid (Blk.new wA 113 [.slice none 0 0, .slice none 0 0, .slice none 0 0, .slice none 0 0])
  have HWe : Hid (w0 = ((w.alloc (.cells #[.slice (some ⟨h.gw, 0, none⟩) nw h.kw, .slice (some ⟨h.gr, 0, none⟩) n h.kr, .slice (some ⟨h.gp, 0, none⟩) n h.kp, .slice (some ⟨h.gb, 0, none⟩) n h.kb] 113)).alloc (.cells #[.slice none 0 0, .slice none 0 0, .slice none 0 0, .slice none 0 0] 113)).alloc (.cells #[.slice none 0 0, .slice none 0 0, .slice none 0 0, .slice none 0 0] 113)) := Lib.hid (by rw [hw0, hwA])
  have HGe := Lib.hid hgw
  have HGt := Lib.hid hgt
  have hgB : w.heap.size + 1 < gt := by omega
  obtain ⟨ii, hii, hiiz, hiis, hiib⟩ := info_parts info_iF
  obtain ⟨ir, hir, hirz, hirs, hirb⟩ := info_parts info_r4
  obtain ⟨ip, hip, hipz, hips, hipb⟩ := info_parts info_pend
  obtain ⟨iq, hiq⟩ : ∃ iq, Try.prog.info? 280 = some iq := by
    cases hq : Try.prog.info? 280 with
    | none => have := info_pn; rw [hq] at this; cases this
    | some iq => exact ⟨iq, rfl⟩
  have Hiq := Lib.hid hiq
  clear hs hw0 hwA hgt hiq hgw
  go_enter Try.func129, Try.ntmps129
  go_upto_region 2 with fail
  rw [← HWe.out, ← HGe.out]
  clear HWe
  have s0 : w0.cell? ⟨w.heap.size, 0, none⟩ = some (.slice (some ⟨h.gw, 0, none⟩) nw h.kw) := (HB.out.below HX0.out HB.out.lt).cell rfl
  have t0 : w0.cell? ⟨gt, 0, none⟩ = some (.slice none 0 0) := HT0.out.cell rfl
  have HSl : Hid (Sl w0 w0.heap.size 1 (some ⟨h.gw, 0, none⟩) nw (ints S.ws)) := Lib.hid (HS.out.on HX0.out).w.sl
  go_upto_region 3 with (at_builtin; go_must (refine wpList_app _ rfl _ _ 30 rfl wA.heap.size 3 ii (.int .i64 0) 1 8 Try.underlying30 hii hiiz hiis hiib rfl (by decide) (.slice none 0 0) 0 [] rfl (World.ownsRow_nil _ _ _ _) _ (some ⟨h.gw, 0, none⟩) nw h.kw (ints S.ws) rfl HSl.out ints_one' nw (by omega) (ints S.ws) (List.nil_append _) none rfl (by simp only [maxLen]; omega) (by omega) HX0.out.size ?_; intro A9 kw v9 hown hg hat hk7 hk8; obtain ⟨gw, hgq, gwB, hRq⟩ := Rw.of_own hown (by omega); subst hgq; have hB9 := HT0.out.grown hg (by simp); have d1 : v9.cell? ⟨gt, 0, none⟩ = some (.slice none 0 0) := hB9.cell rfl; have df := hB9.frozen 0))
  have hnewgw : w0.heap.size ≤ gw := by
    rcases hat with h9 | h9
    · cases h9
    · injection h9 with h9
      have h8 : gw = w0.heap.size := h9
      omega
  skip
  obtain ⟨W1, hZ, HX1, HT1, HRgw1⟩ : ∃ Z9, Z9 = v9.setCell ⟨gt, 0, none⟩ (.slice (some ⟨gw, 0, none⟩) nw kw) ∧ Hid (Below wA.heap.size wA Z9) ∧ Hid (Blk Z9 gt 113 [.slice (some ⟨gw, 0, none⟩) nw kw, .slice none 0 0, .slice none 0 0, .slice none 0 0]) ∧ Hid (Rw Z9 gw 3 1 nw kw (ints S.ws)) :=
    ⟨_, rfl, Lib.hid ((gbn HX0.out hg HX0.out.size).setCell (Nat.le_of_eq HGt.out.symm) _), Lib.hid (hB9.set_ 0 _), Lib.hid (hRq.far (hRq.nb hB9 (by decide)) _)⟩
  rw [← hZ]
  clear hZ d1 df hown hg hat hRq hB9 s0 t0 HSl HX0 HT0
  have s1 : W1.cell? ⟨w.heap.size, 1, none⟩ = some (.slice (some ⟨h.gr, 0, none⟩) n h.kr) := (HB.out.below HX1.out HB.out.lt).cell rfl
  have t1 : W1.cell? ⟨gt, 1, none⟩ = some (.slice none 0 0) := HT1.out.cell rfl
  have HSl : Hid (Sl W1 W1.heap.size 4 (some ⟨h.gr, 0, none⟩) n (ints S.rs)) := Lib.hid (HS.out.on HX1.out).r.sl
  go_upto_region 4 with (at_builtin; go_must (refine wpList_app _ rfl _ _ 110 rfl wA.heap.size 173 ir (.agg #[.int .i64 0, .int .i64 0, .int .i64 0, .int .i64 0]) 4 32 Try.underlying110 hir hirz hirs hirb rfl (by decide) (.slice none 0 0) 0 [] rfl (World.ownsRow_nil _ _ _ _) _ (some ⟨h.gr, 0, none⟩) n h.kr (ints S.rs) rfl HSl.out ints_one' n (by omega) (ints S.rs) (List.nil_append _) none rfl (by simp only [maxLen]; omega) (by omega) HX1.out.size ?_; intro A9 kr v9 hown hg hat hk7 hk8; obtain ⟨gr, hgq, grB, hRq⟩ := Rw.of_own hown (by omega); subst hgq; have hB9 := HT1.out.grown hg (by simp); have d1 : v9.cell? ⟨gt, 1, none⟩ = some (.slice none 0 0) := hB9.cell rfl; have df := hB9.frozen 1))
  have hnewgr : W1.heap.size ≤ gr := by
    rcases hat with h9 | h9
    · cases h9
    · injection h9 with h9
      have h8 : gr = W1.heap.size := h9
      omega
  skip
  obtain ⟨W2, hZ, HX2, HT2, HRgr2, HRgw2⟩ : ∃ Z9, Z9 = v9.setCell ⟨gt, 1, none⟩ (.slice (some ⟨gr, 0, none⟩) n kr) ∧ Hid (Below wA.heap.size wA Z9) ∧ Hid (Blk Z9 gt 113 [.slice (some ⟨gw, 0, none⟩) nw kw, .slice (some ⟨gr, 0, none⟩) n kr, .slice none 0 0, .slice none 0 0]) ∧ Hid (Rw Z9 gr 173 4 n kr (ints S.rs)) ∧ Hid (Rw Z9 gw 3 1 nw kw (ints S.ws)) :=
    ⟨_, rfl, Lib.hid ((gbn HX1.out hg HX1.out.size).setCell (Nat.le_of_eq HGt.out.symm) _), Lib.hid (hB9.set_ 1 _), Lib.hid (hRq.far (hRq.nb hB9 (by decide)) _), Lib.hid ((HRgw1.out.gb hg (by simp)).far (HRgw1.out.nb HT1.out (by decide)) _)⟩
  rw [← hZ]
  clear hZ d1 df hown hg hat hRq hB9 s1 t1 HSl HX1 HT1 HRgw1
  have s2 : W2.cell? ⟨w.heap.size, 2, none⟩ = some (.slice (some ⟨h.gp, 0, none⟩) n h.kp) := (HB.out.below HX2.out HB.out.lt).cell rfl
  have t2 : W2.cell? ⟨gt, 2, none⟩ = some (.slice none 0 0) := HT2.out.cell rfl
  have HSl : Hid (Sl W2 W2.heap.size 1 (some ⟨h.gp, 0, none⟩) n (natsI S.ps)) := Lib.hid (HS.out.on HX2.out).p.sl
  go_upto_region 5 with (at_builtin; go_must (refine wpList_app _ rfl _ _ 30 rfl wA.heap.size 3 ii (.int .i64 0) 1 8 Try.underlying30 hii hiiz hiis hiib rfl (by decide) (.slice none 0 0) 0 [] rfl (World.ownsRow_nil _ _ _ _) _ (some ⟨h.gp, 0, none⟩) n h.kp (natsI S.ps) rfl HSl.out natsI_oneC n (by omega) (natsI S.ps) (List.nil_append _) none rfl (by simp only [maxLen]; omega) (by omega) HX2.out.size ?_; intro A9 kp v9 hown hg hat hk7 hk8; obtain ⟨gp, hgq, gpB, hRq⟩ := Rw.of_own hown (by omega); subst hgq; have hB9 := HT2.out.grown hg (by simp); have d1 : v9.cell? ⟨gt, 2, none⟩ = some (.slice none 0 0) := hB9.cell rfl; have df := hB9.frozen 2))
  have hnewgp : W2.heap.size ≤ gp := by
    rcases hat with h9 | h9
    · cases h9
    · injection h9 with h9
      have h8 : gp = W2.heap.size := h9
      omega
  have hnp : gw ≠ gp := fun e => by have := HRgw2.out.lt; omega
  obtain ⟨W3, hZ, HX3, HT3, HRgp3, HRgw3, HRgr3⟩ : ∃ Z9, Z9 = v9.setCell ⟨gt, 2, none⟩ (.slice (some ⟨gp, 0, none⟩) n kp) ∧ Hid (Below wA.heap.size wA Z9) ∧ Hid (Blk Z9 gt 113 [.slice (some ⟨gw, 0, none⟩) nw kw, .slice (some ⟨gr, 0, none⟩) n kr, .slice (some ⟨gp, 0, none⟩) n kp, .slice none 0 0]) ∧ Hid (Rw Z9 gp 3 1 n kp (natsI S.ps)) ∧ Hid (Rw Z9 gw 3 1 nw kw (ints S.ws)) ∧ Hid (Rw Z9 gr 173 4 n kr (ints S.rs)) :=
    ⟨_, rfl, Lib.hid ((gbn HX2.out hg HX2.out.size).setCell (Nat.le_of_eq HGt.out.symm) _), Lib.hid (hB9.set_ 2 _), Lib.hid (hRq.far (hRq.nb hB9 (by decide)) _), Lib.hid ((HRgw2.out.gb hg (by simp)).far (HRgw2.out.nb HT2.out (by decide)) _), Lib.hid ((HRgr2.out.gb hg (by simp)).far (HRgr2.out.nb HT2.out (by decide)) _)⟩
  rw [← hZ]
  clear hZ d1 df hown hg hat hRq hB9 s2 t2 HSl HX2 HT2 HRgw2 HRgr2
  have HC : Hid (Cpy wA n nw S gt gw kw gr kr gp kp (.slice none 0 0) 0 W3) := Lib.hid ⟨HX3.out, HT3.out, HRgw3.out, HRgr3.out, HRgp3.out, World.ownsRow_nil _ _ _ _, ⟨HRgw3.out.nt HRgr3.out (by decide), hnp, HRgr3.out.nt HRgp3.out (by decide)⟩, ⟨Nat.le_of_eq HGt.out.symm, by omega, by omega, by omega⟩⟩
  clear HX3 HT3 HRgw3 HRgr3 HRgp3
  go_wp2_with fail
  go_loopg [4] n (fun gk i wr => ∃ (j : Nat) (bv : Value), j + gk = n ∧ i = .int .i64 j ∧ Hid (Cpy wA n nw S gt gw kw gr kr gp kp bv j wr))
  case atStart => exact ⟨0, _, by omega, rfl, HC⟩
  case round =>
    obtain ⟨j, bv, hj, rfl, HI⟩ := hrel
    have b3 : wr.cell? ⟨w.heap.size, 3, none⟩ = some (.slice (some ⟨h.gb, 0, none⟩) n h.kb) := (HB.out.below HI.out.bel HB.out.lt).cell rfl
    by_cases hlt : j < n
    · have e1 : (j : Int) < n := by omega
      have e0 : (0 : Int) ≤ j := by omega
      have d1 : decide (j < n) = true := by simpa using hlt
      have c1 : wr.cell? ⟨h.gb, j, none⟩ = some (.slice none 0 0) := (HS.out.on HI.out.bel).buf hlt
      obtain ⟨A, kb, hbv, hk1, hk2⟩ := own_form HI.out.b
      subst hbv
      have b0 : wr.cell? ⟨gt, 3, none⟩ = some (.slice A j kb) := HI.out.t.cell rfl
      have hbz := HI.out.bel.size
      have hBz := HI.out.t.lt
      go_wp2_with (at_builtin; go_must (first | (refine wpList_app_nil rfl _ _ 278 280 rfl iq Try.underlying278 Hiq.out rfl rfl ?_) | (refine wpList_app _ rfl _ _ 111 rfl wA.heap.size 278 ip (.slice none 0 0) 1 24 Try.underlying111 hip hipz hips hipb rfl (by decide) (.slice A j kb) j (List.replicate j (.slice none 0 0)) rfl (HI.out.b.alloc _) (wr.heap.size + 1) (some ⟨wr.heap.size, 0, none⟩) 1 1 [.slice none 0 0] rfl (((Blk.new wr 278 _).sl rfl).up (by simp)) one_nil (j + 1) rfl _ (rep_snoc j _) _ rfl (by simp only [maxLen]; omega) (by omega) (by rw [World.size_alloc]; omega) ?_; intro A10 k10 W10 hown10 hg10 hat10 hk10 hk11; have hB10 := (HI.out.t.alloc (.cells #[.slice none 0 0] 278)).grown hg10 (own_nb (HI.out.b.alloc (.cells #[.slice none 0 0] 278)) (HI.out.t.alloc (.cells #[.slice none 0 0] 278)) (by decide)); have d0 : W10.cell? ⟨gt, 3, none⟩ = some (.slice A j kb) := hB10.cell rfl; have df := hB10.frozen 3)))
      go_roundg (gk - 1)
      case measure => omega
      case rel => exact ⟨j + 1, _, by omega, by go_num, HI.out.next ((Below.refl _ wr).alloc (Nat.le_refl _) (.cells #[.slice none 0 0] 278)) hg10 hown10⟩
    · obtain rfl : j = n := by omega
      obtain ⟨A, kb, hbv, hk1, hk2⟩ := own_form HI.out.b
      subst hbv
      obtain ⟨gb, hgb, hB, hR⟩ := Rw.of_own HI.out.b (by omega)
      subst hgb
      have hzd := HI.out.bel.size
      have HZ9 := Lib.hid (HZ.out.below HI.out.bel HZ.out.lt)
      have hT := HI.out.t
      have HR9 := Lib.hid hR
      have hzA := HWA.out.size
      clear hR
      go_upto_region 11 with fail
      refine wp_region_lit ?_
      refine wpList_load_row rfl _ _ rfl gt rfl 113 _ (0, 0) _ hT Try.underlying113 rfl size_lst ?_
      refine wpList_store_row rfl _ _ _ rfl (w.heap.size + 1) _ rfl rfl _ _ HZ9.out size_lst rfl (lst_one _ _ _ _ _ _ _ _ _ _ _ _) ?_
      have HR := Lib.hid (setRow_heap wr (w.heap.size + 1) _ (stL ⟨gw, kw, gr, kr, gp, kp, gb, kb⟩ j nw).toArray _ _ HZ9.out)
      have HG := HI.out.ge
      have hgt9 := HGt.out
      have hge9 := HGe.out
      go_wp2_with fail
      refine bodyPost_ret_by (results_cell_row rfl _ _ (w.heap.size + 1) 113 _ (0, 0) _ rfl HR.out Try.underlying113 rfl size_lst) rfl ?_
      refine ⟨⟨gw, kw, gr, kr, gp, kp, gb, kb⟩, rfl, ⟨by dsimp only; omega, by dsimp only; omega, by dsimp only; omega, by dsimp only; omega⟩, ⟨HI.out.w.kept (rowK (by omega)), HI.out.r.kept (rowK (by omega)), HI.out.p.kept (rowK (by omega)), HR9.out.kept (rowK (by omega)), ?_⟩, rowB (HWA.out.trans (HI.out.bel.mono (by omega))) (by omega)⟩
      obtain ⟨n1, n2, n3⟩ := HI.out.ne
      have m1 := own_nr HI.out.b HI.out.w (by decide)
      have m2 := own_nr HI.out.b HI.out.r (by decide)
      have m3 := own_nr HI.out.b HI.out.p (by decide)
      exact ⟨n1, n2, fun e => m1 (by have e' : gw = gb := e; rw [e']; rfl), n3, fun e => m2 (by have e' : gr = gb := e; rw [e']; rfl), fun e => m3 (by have e' : gp = gb := e; rw [e']; rfl)⟩
end Go.Proofs.Ytgbopmgeicokoaa
