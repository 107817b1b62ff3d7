/-
tso.worker.store under an order with buffers. tso.out: a sto
-/
import Derived.Test.YtgjdgapfnfhklaaGreatZ25
import Derived.Test.YtgjdgapfnfhklaaGreatQwk
import Derived.Test.YtgjdgapfnfhklaaGreatZ8
set_option linter.unusedSimpArgs false
set_option linter.unusedVariables false
set_option maxRecDepth 100000
set_option maxHeartbeats 4000000
namespace Go.Proofs.YtgjdgapfnfhklaaGreat
open Go.RowKit
def NewB (W : World) (bs bs' : List Bf) : Prop := ∀ x ∈ bs', ∀ g, x.blk = some g -> W.heap.size <= g ∨ ∃ y ∈ bs, y.blk = some g
theorem NewB.refl (W : World) (bs : List Bf) : NewB W bs bs := fun x hx g hg => Or.inr ⟨x, hx, hg⟩
theorem NewB.set {W : World} {bs : List Bf} {t : Nat} {y z : Bf} (hy : y ∈ bs) (hz : z.blk = y.blk ∨ ∀ g, z.blk = some g -> W.heap.size <= g) : NewB W bs (bs.set t z) := fun x hx g hg => by
 rcases List.mem_or_eq_of_mem_set hx with hx | rfl
 ·exact Or.inr ⟨x, hx, hg⟩
 ·rcases hz with hz | hz
  ·exact Or.inr ⟨y, hy, hz ▸ hg⟩
  ·exact Or.inl (hz g hg)
section
variable {P : Program} {md : Region.Mode} {ops : Array Oper} {Q : Exit -> Act -> World -> Prop} {S : World -> Prop}
theorem tkH (i : Nat) {oi : Oper} {v : Value} {fuel : Nat} {listed : Array Bool} {a : Act} {w : World} (hy : ∀ W, S W -> (execOp a.eval oi).run P W = .ok (.value v) W) (h : wpAnyH P md ops Q S fuel (listed.setIfInBounds i true) (a.put oi.dst v) w) (hi : ops[i]? = some oi := by rfl)
  (hw : Region.wanted oi (yielded ops a.tmps) = true := by rfl) (hs : Region.noSelect ops = true := by kernel_rfl) (hf : Region.free md ops listed i = true := by kernel_rfl) (hr : (Region.ready md ops listed).contains i = true := by kernel_rfl)
  (hQ : ∀ c a w, Q (.panic c) (a.put oi.dst v) w -> Q (.panic c) a w := by exact fun _ _ _ h => h) (hS : S w := by assumption) : wpAnyH P md ops Q S (fuel + 1) listed a w :=
 wpAnyH_take hi hs hf hr hQ (Or.inl ⟨hw, hy⟩) hS h
end
section
variable {W : World} {gq gs : Nat} {h : SH} {n nw : Nat} {S : LS} {bs : List Bf} {t : Nat} {x : Ins} {y : Bf} {ad : Nat}
def StlR (h : SH) (n nw : Nat) (S : LS) (bs : List Bf) (t : Nat) (q : List Pd) (W : World) (e : Ending) (W' : World) : Prop := e = .returned (.bool true) /\ ∃ hd, StQ W' h n nw S (bs.set t ⟨hd, q⟩) /\ NewB W bs (bs.set t ⟨hd, q⟩) /\ Fr (SQ h bs) W W'
theorem pd_one (a : Nat) (v : Int) : ∀ u ∈ [Value.int .i64 a, .int .i64 v], u.oneCell' = true := by intro u hu; simp at hu; rcases hu with rfl | rfl <;> rfl
theorem storeQ_late (H : WkQ W gq gs h n nw S bs t x true) (hy : bs[t]? = some y) (hq : y.q.length <= 10) (ha : x.addr = (ad : Int)) (ha4 : ad < nw) {v : Int} (hv : (0 <= x.src /\ x.src < 4 /\ S.r t x.src.toNat = v) ∨ (x.src < 0 /\ x.value = v)) :
  Calls Tryz.prog 80 #[.pointer (some ⟨gq, 0, none⟩)] W (StlR h n nw S bs t (y.q ++ [(ad, v)]) W) := by
 obtain ⟨k0, k1, k2, k3, k4, k5, k6, k7, k8, k9, s0, s1, s2, s3, g6, g7, e0, e1, g8⟩ := H.c
 rw [ha] at k3
 have HH := Lh H
 obtain ⟨⟨A, yn, yk⟩, q⟩ := y
 dsimp only at hq ⊢
 have hyl := (H.st.own _ (List.mem_of_getElem? hy)).1
 dsimp only at hyl
 subst hyl
 generalize hR : StlR h n nw S bs t (q ++ [(ad, v)]) W = R
 go_enter Tryz.func80, Tryz.ntmps80
 rcases hv with ⟨hs0, hs4, hv⟩ | ⟨hsn, hv⟩
 case' inl =>
  obtain ⟨sr, hs⟩ : ∃ sr : Nat, x.src = sr := ⟨x.src.toNat, by omega⟩
  rw [hs] at k5 hv
  rw [Int.toNat_natCast] at hv
  have hs4 : sr < 4 := by omega
  obtain ⟨_, g4, e6, e7⟩ := H.rc hs4
  rw [hv] at g4
  clear H
  have d1 : decide ((0 : Int) <= sr) = true := by simp
  go_upto_region 3 with fail
  go_quiet (fail)
  go_upto_region 5 with fail
  obtain ⟨V, hV, HV, BV⟩ : ∃ V, V = W.drewN nq /\ Hid (WkQ V gq gs h n nw S bs t x true) /\ Hid (Below W.heap.size W V) := ⟨_, rfl, HH.o.on ((Below.refl _ _).drewN _), (Below.refl _ _).drewN _⟩
  rw [<- hV]
  clear hV hs0 hs4 hv g4 e6 e7 d1
 case' inr =>
  rw [hv] at k4
  clear H
  have d1 : decide ((0 : Int) <= x.src) = false := by simp; omega
  have d2 : ¬ (0 : Int) <= x.src := by omega
  go_upto_region 5 with fail
  obtain ⟨V, hV, HV, BV⟩ : ∃ V, V = W /\ Hid (WkQ V gq gs h n nw S bs t x true) /\ Hid (Below W.heap.size W V) := ⟨_, rfl, HH.o, Below.refl _ _⟩
  rw [<- hV]
  clear hV hsn hv d1 d2
 all_goals clear k0 k1 k2 k3 k4 k5 k6 k7 k8 k9 s0 s1 s2 s3 g6 g7 g8 HH
 all_goals (
  have HSo : Hid (∀ Z row, V.grownBy Z row -> (row = none ∨ row = (Value.slice A q.length yk).ownBlock) -> Z.cell? ⟨gq, 0, none⟩ = some (.pointer (some ⟨gs, 0, none⟩)) /\ Z.cell? ⟨gq, 3, none⟩ = some (.int .i64 ad) /\ Z.cell? ⟨gq, 8, none⟩ = some (.int .i64 t) /\ Z.cell? ⟨gs, 3, none⟩ = some (.slice (some ⟨h.gb, 0, none⟩) n h.kb) /\ Z.cell? ⟨h.gb, t, none⟩ = some (.slice A q.length yk) /\ Z.frozen? ⟨h.gb, t, none⟩ = false) := Lh fun Z row hg hr => by
   have hm := List.mem_of_getElem? hy
   have ho := (HV.o.st.own _ hm).2
   have hn : ∀ {g : Nat} {T : TypeId} {cs : List Value}, Blk V g T cs -> 180 ≠ T -> Blk Z g T cs := fun {g T cs} hB hne => by
    refine hB.grown hg ?_
    rcases hr with rfl | rfl
    ·simp
    ·exact own_nb ho hB hne
   have hk := hn HV.o.k (by decide)
   have hs := hn HV.o.s (by decide)
   have hb : Rw Z h.gb 161 1 n h.kb (bs.map fun x => hdV x.hd) := HV.o.st.b.grown hg (by
    rcases hr with rfl | rfl
    ·simp
    ·exact own_nr ho HV.o.st.b (by decide))
   have hkc := fun (i : Nat) (v : Value) (hv : ([.pointer (some ⟨gs, 0, none⟩), .int .i64 x.kind, .int .i64 x.reg, .int .i64 x.addr, .int .i64 x.value, .int .i64 x.src, .int .i64 x.old, .int .i64 x.count, .int .i64 t, .bool true] : List Value)[i]? = some v) => hk.cell (i := i) hv
   exact ⟨hkc 0 _ rfl, by rw [<- ha]; exact hkc 3 _ rfl, hkc 8 _ rfl, hs.cell rfl, hb.cell (by rw [List.getElem?_map, hy]; rfl), hb.frozen _⟩
  have HS4 : Hid (∀ Z row, V.grownBy Z row -> (row = none ∨ row = (Value.slice A q.length yk).ownBlock) -> Z.cell? ⟨gq, 0, none⟩ = some (.pointer (some ⟨gs, 0, none⟩)) /\ Z.cell? ⟨gq, 3, none⟩ = some (.int .i64 ad) /\ Z.cell? ⟨gq, 8, none⟩ = some (.int .i64 t) /\ Z.cell? ⟨gs, 3, none⟩ = some (.slice (some ⟨h.gb, 0, none⟩) n h.kb)) := Lh fun Z row hg hr => by
   obtain ⟨z0, z3, z8, zs, _⟩ := HSo.o Z row hg hr
   exact ⟨z0, z3, z8, zs⟩
  have HSF : Hid (∀ Z row u, V.grownBy Z row -> (row = none ∨ row = (Value.slice A q.length yk).ownBlock) -> (Z.setCell ⟨h.gb, t, none⟩ u).cell? ⟨gq, 0, none⟩ = some (.pointer (some ⟨gs, 0, none⟩)) /\ (Z.setCell ⟨h.gb, t, none⟩ u).cell? ⟨gq, 3, none⟩ = some (.int .i64 ad) /\ (Z.setCell ⟨h.gb, t, none⟩ u).cell? ⟨gq, 8, none⟩ = some (.int .i64 t) /\ (Z.setCell ⟨h.gb, t, none⟩ u).cell? ⟨gs, 3, none⟩ = some (.slice (some ⟨h.gb, 0, none⟩) n h.kb)) := Lh fun Z row u hg hr => by
   obtain ⟨z0, z3, z8, zs⟩ := HS4.o Z row hg hr
   have n1 := HV.o.no.1.2.2.2
   have n2 := HV.o.no.2.2.2.2
   have far : ∀ b i, b ≠ h.gb -> (Z.setCell ⟨h.gb, t, none⟩ u).cell? ⟨b, i, none⟩ = Z.cell? ⟨b, i, none⟩ := fun b i hb => World.cell?_setCell_other _ _ _ _ (by simp [hb])
   exact ⟨(far _ _ n1).trans z0, (far _ _ n1).trans z3, (far _ _ n1).trans z8, (far _ _ n2).trans zs⟩
  obtain ⟨i1, hi1, hi1z, hi1s, hi1b⟩ := info_parts info_pd
  have HO := Lh (HV.o.st.own _ (List.mem_of_getElem? hy)).2
  obtain ⟨f0, f3, f8, fs, fb, fz⟩ := HSo.o V none ⟨rfl, rfl, rfl, Nat.le_refl _, fun _ _ _ => rfl⟩ (Or.inl rfl)
  clear f0 f3 f8 fs
  have fa : (V.alloc (.cells #[.int .i64 ad, .int .i64 v] 180)).cell? ⟨h.gb, t, none⟩ = some (.slice A q.length yk) := (HSo.o _ none (World.grownBy_alloc V _ none) (Or.inl rfl)).2.2.2.2.1
  refine wp_region_held_drew (S := (fun Z => Z.cell? ⟨gq, 0, none⟩ = some (.pointer (some ⟨gs, 0, none⟩)) /\ Z.cell? ⟨gq, 3, none⟩ = some (.int .i64 ad) /\ Z.cell? ⟨gq, 8, none⟩ = some (.int .i64 t) /\ Z.cell? ⟨gs, 3, none⟩ = some (.slice (some ⟨h.gb, 0, none⟩) n h.kb))) (by kernel_rfl) (HS4.o _ none ⟨rfl, rfl, rfl, Nat.le_refl _, fun _ _ _ => rfl⟩ (Or.inl rfl)) (fun hS => ?_)
  iterate 23 (refine tkF 0 (v := ?_) ?_ ?_; rotate_left; · (intro W hSw; (try dsimp only at hSw); go_simp; try with_reducible rfl); try simp only [Act.put, List.setIfInBounds_toArray, List.set_cons_zero, List.set_cons_succ])
  iterate 7 (refine tkF 24 (v := ?_) ?_ ?_; rotate_left; · (intro W hSw; (try dsimp only at hSw); go_simp; try with_reducible rfl); try simp only [Act.put, List.setIfInBounds_toArray, List.set_cons_zero, List.set_cons_succ])
  refine wpAnyH_ready (rs := [23, 31]) (by kernel_rfl) (by simp) (AllReadyH.cons rfl (fun K1 hK1 => ?_) (AllReadyH.cons rfl (fun K1 hK1 => ?_) AllReadyH.nil))
  rw [if_pos (by rfl)]
  go_simp
  refine hK1.out _ _ (HS4.o _ none ⟨rfl, rfl, rfl, Nat.le_refl _, fun _ _ _ => rfl⟩ (Or.inl rfl)) (fun hS => ?_)
  try simp only [Act.put, List.setIfInBounds_toArray, List.set_cons_zero, List.set_cons_succ]
  refine rd 31 fun K2 hK2 => ?_
  go_simp
  refine hK2.out _ _ (HS4.o _ none ⟨rfl, rfl, rfl, by simp, fun k hk _ => Below.heap_alloc V.drew _ k hk⟩ (Or.inl rfl)) (fun hS => ?_)
  try simp only [Act.put, List.setIfInBounds_toArray, List.set_cons_zero, List.set_cons_succ]
  rotate_left
  rw [if_pos (by rfl)]
  go_simp
  refine hK1.out _ _ (HS4.o _ none ⟨rfl, rfl, rfl, by simp, fun k hk _ => Below.heap_alloc V.drew _ k hk⟩ (Or.inl rfl)) (fun hS => ?_)
  try simp only [Act.put, List.setIfInBounds_toArray, List.set_cons_zero, List.set_cons_succ]
  refine rd 23 fun K2 hK2 => ?_
  go_simp
  refine hK2.out _ _ (HS4.o _ none ⟨rfl, rfl, rfl, by simp, fun k hk _ => Below.heap_alloc V.drew _ k hk⟩ (Or.inl rfl)) (fun hS => ?_)
  try simp only [Act.put, List.setIfInBounds_toArray, List.set_cons_zero, List.set_cons_succ]
  all_goals (
   refine rd1 32 fun K3 hK3 => ?_
   refine step_app _ (by rfl) _ _ 161 (by rfl) 0 180 i1 (.agg #[.int .i64 0, .int .i64 0]) 2 16 Tryz.underlying161 hi1 hi1z hi1s hi1b rfl (by decide) (.slice A q.length yk) q.length (pdVals q) (by rfl) ((HO.o.below (Below.refl _ _).drew).alloc _) (V.heap.size + 1) (some ⟨V.heap.size, 0, none⟩) 1 1 [.int .i64 ad, .int .i64 v] (by rfl) (((Blk.new V.drew 180 [.int .i64 ad, .int .i64 v]).sl rfl).up (by simp)) (pd_one _ _) (q.length + 1) rfl (pdVals (q ++ [(ad, v)])) (by rw [pdVals_app]; rfl) _ rfl (by simp only [maxLen]; omega) (by omega) (Nat.zero_le _) ?_
   intro A10 k10 W10 hown10 hg9 hat10 hk10 hk11
   have hg10 : V.grownBy W10 (Value.slice A q.length yk).ownBlock := ⟨hg9.os, hg9.tape, hg9.output, by have := hg9.size; simp at this; omega, fun k hk hne => (hg9.block k (by simp; omega) hne).trans (Below.heap_alloc V.drew _ k hk)⟩
   obtain ⟨_, _, _, _, zb, zz⟩ := HSo.o _ _ hg10 (Or.inr rfl)
   refine hK3.out _ _ (HS4.o _ _ hg10 (Or.inr rfl)) (fun hS => ?_)
   try simp only [Act.put, List.setIfInBounds_toArray, List.set_cons_zero, List.set_cons_succ]
   refine tkF 33 (v := ?_) ?_ ?_
   rotate_left
   ·(intro W hSw; (try dsimp only at hSw); go_simp; try with_reducible rfl)
   try simp only [Act.put, List.setIfInBounds_toArray, List.set_cons_zero, List.set_cons_succ]
   refine rd 34 fun K4 hK4 => ?_
   go_simp
   refine hK4.out _ _ (HSF.o _ _ _ hg10 (Or.inr rfl)) (fun hS => ?_)
   try simp only [Act.put, List.setIfInBounds_toArray, List.set_cons_zero, List.set_cons_succ]
   refine wpAnyH_done (by kernel_rfl) ?_ _))
 all_goals (
  go_wp2_with fail
  subst hR
  have hat9 : (Value.slice A10 (q.length + 1) k10).ownBlock = (Value.slice A q.length yk).ownBlock ∨ ∀ g, (Value.slice A10 (q.length + 1) k10).ownBlock = some g -> V.heap.size <= g := by
   refine hat10.imp id fun h8 g hg => ?_
   rw [h8] at hg
   injection hg with hg
   rw [<- hg]
   simp
  refine ⟨rfl, (A10, q.length + 1, k10), ?_, ?_, ?_⟩
  ·have hq9 : (q ++ [(ad, v)]).length = q.length + 1 := by simp
   have h9 := HV.o.st.put (W' := W10) hy (A := A10) (k := k10) (q := q ++ [(ad, v)]) hg10 (by rw [hq9]; exact hown10) (by rw [hq9]; exact hat9)
   rw [hq9] at h9
   exact h9
  ·refine NewB.set (List.mem_of_getElem? hy) ?_
   exact hat9.imp id fun h8 g hg => Nat.le_trans BV.out.size (h8 g hg)
  ·refine ((Fr.of BV.out).grown hg10 fun g hg => ?_).setCell (Or.inr (Or.inr (Or.inr (Or.inl rfl)))) _
   exact Or.inr (Or.inr (Or.inr (Or.inr ⟨_, List.mem_of_getElem? hy, hg⟩))))
end
end Go.Proofs.YtgjdgapfnfhklaaGreat
namespace Go.Proofs.YtgjdgapfnfhklaaGreat
open Go.RowKit
def Skp (o : Nat) (a : Int) (s : List Pd) : Prop := ∀ e ∈ s, o = 3 /\ (e.1 : Int) ≠ a
theorem outQ_skip {o : Nat} {a : Int} : ∀ {s r : List Pd}, (∀ e ∈ s, o = 3 /\ (e.1 : Int) ≠ a) -> outQ o a (s ++ r) = (outQ o a r).map fun y => (y.1, s ++ y.2)
 | [], r, _ => by simp
 | e :: s, r, h => by
  rw [List.cons_append, outQ, if_pos (h e (by simp)), outQ_skip (fun z hz => h z (List.mem_cons_of_mem _ hz))]
  cases outQ o a r <;> rfl
theorem outQ_hit {o : Nat} {a : Int} {p : Pd} {q : List Pd} {j : Nat} (hs : Skp o a (q.take j)) (hp : q[j]? = some p) (hh : ¬ (o = 3 /\ (p.1 : Int) ≠ a)) : outQ o a q = some (p, q.eraseIdx j) := by
 have h1 : q = q.take j ++ p :: q.drop (j + 1) := by
  obtain ⟨hj, rfl⟩ := List.getElem?_eq_some_iff.1 hp
  rw [<- List.drop_eq_getElem_cons hj, List.take_append_drop]
 have h2 : outQ o a (p :: q.drop (j + 1)) = some (p, q.drop (j + 1)) := by rw [outQ, if_neg hh]
 have h3 := outQ_skip (r := p :: q.drop (j + 1)) hs
 rw [<- h1, h2] at h3
 rw [h3, List.eraseIdx_eq_take_drop_succ]
 rfl
theorem outQ_end {o : Nat} {a : Int} {q : List Pd} (hs : Skp o a q) : outQ o a q = none := by
 have h := outQ_skip (r := []) hs
 rw [List.append_nil] at h
 rw [h]
 rfl
def outS (S : LS) (r : Option (Pd × List Pd)) : LS := match r with | some y => ⟨S.ws.set y.1.1 y.1.2, S.rs, S.ps⟩ | none => S
def outL (q : List Pd) (r : Option (Pd × List Pd)) : List Pd := match r with | some y => y.2 | none => q
def OutR (h : SH) (n nw : Nat) (S : LS) (bs : List Bf) (t : Nat) (q : List Pd) (r : Option (Pd × List Pd)) (w : World) (e : Ending) (w' : World) : Prop :=
 e = .returned (.bool r.isSome) /\ ∃ bs', StQ w' h n nw (outS S r) bs' /\ bs'.map (·.q) = (bs.map (·.q)).set t (outL q r) /\ NewB w bs bs' /\ Fr (SQ h bs) w w' /\ (r = none -> bs' = bs)
theorem StQ.el {W : World} {h : SH} {n nw : Nat} {S : LS} {bs : List Bf} {t : Nat} {y : Bf} (H : StQ W h n nw S bs) (hy : bs[t]? = some y) {j : Nat} {p : Pd} (hp : y.q[j]? = some p) : ∃ g, y.hd.1 = some ⟨g, 0, none⟩ /\ W.cell? ⟨g, j * 2, none⟩ = some (.int .i64 p.1) /\ W.cell? ⟨g, j * 2 + 1, none⟩ = some (.int .i64 p.2) := by
 obtain ⟨hl, ho⟩ := H.own y (List.mem_of_getElem? hy)
 have hj := (List.getElem?_eq_some_iff.1 hp).1
 rcases ho.2 with ⟨_, h0⟩ | ⟨g, cap, cur, hv, _⟩
 ·omega
 ·have hv' := hv
  injection hv with hA _ hk
  rw [hv'] at ho
  refine ⟨g, hA, ?_, ?_⟩
  ·rw [World.ownsRow.cellAt ho _ (by omega)]
   exact pdVals_get hp 0 (by omega)
  ·rw [World.ownsRow.cellAt ho _ (by omega)]
   exact pdVals_get hp 1 (by omega)
theorem out_q (o gs : Nat) (h : SH) (n nw : Nat) (S : LS) (bs : List Bf) (t : Nat) (y : Bf) (b : Bool) (a : Int) (w : World) (hs : StQ w h n nw S bs) (hb : Blk w gs 77 (stL h n nw)) (ht : t < n) (hy : bs[t]? = some y) (hq : y.q.length <= 10) (hp : ∀ p ∈ y.q, p.1 < nw) :
  Calls Tryz.prog 78 #[.int .i64 o, .pointer (some ⟨gs, 0, none⟩), .agg #[.int .i64 t, .bool b, .int .i64 a]] w (OutR h n nw S bs t y.q (outQ o a y.q) w) := by
 have e0 : (0 : Int) <= t := by omega
 have e1 : (t : Int) < n := by omega
 have HW0 : Hid (Below w.heap.size w (w.alloc (.cells #[.int .i64 t, .bool b, .int .i64 a] 91))) := (Below.refl _ _).alloc (Nat.le_refl _) _
 have HT0 : Hid (Blk (w.alloc (.cells #[.int .i64 t, .bool b, .int .i64 a] 91)) w.heap.size 91 [.int .i64 t, .bool b, .int .i64 a]) := Blk.new _ _ _
 obtain ⟨⟨A, yn, yk⟩, q⟩ := y
 have hyl := (hs.own _ (List.mem_of_getElem? hy)).1
 dsimp only at hyl hq hp ⊢
 subst hyl
 have HS := Lh hs
 have HB := Lh hb
 have HP := Lh hp
 clear hs hb hp
 go_enter Tryz.func78, Tryz.ntmps78
 go_upto_region 1 with fail
 generalize w.alloc (.cells #[.int .i64 t, .bool b, .int .i64 a] 91) = w0 at HW0 HT0 ⊢
 have q0 := HT0.o.cell (i := 0) rfl
 have s3 := (HB.o.below HW0.o HB.o.lt).cell (i := 3) rfl
 have c0 : w0.cell? ⟨h.gb, t, none⟩ = some (.slice A q.length yk) := (HS.o.on HW0.o).bufc hy
 go_quiet (fail)
 obtain ⟨V, hV, HV, HTV⟩ : ∃ V, V = w0.drewN nq /\ Hid (Below w.heap.size w V) /\ Hid (Blk V w.heap.size 91 [.int .i64 t, .bool b, .int .i64 a]) := ⟨_, rfl, HW0.o.trans ((Below.refl _ _).drewN _), HT0.o.below ((Below.refl _ _).drewN _) HT0.o.lt⟩
 rw [<- hV]
 clear hV q0 s3 c0 HW0 HT0
 go_wp2_with fail
 go_loopg [20] q.length (fun gk i wr => ∃ j : Nat, j + gk = q.length /\ i = .int .i64 j /\ Hid (Skp o a (q.take j)) /\ Hid (Below w.heap.size w wr) /\ Hid (Blk wr w.heap.size 91 [.int .i64 t, .bool b, .int .i64 a]))
 case atStart => exact ⟨0, by omega, rfl, fun e he => by simp at he, HV, HTV⟩
 case round =>
  clear HV HTV
  obtain ⟨j, hj, rfl, HK, HW, HT⟩ := hrel
  by_cases hlt : j < q.length
  ·have e6 : (j : Int) < q.length := by omega
   have e7 : (0 : Int) <= j := by omega
   obtain ⟨p, hpj⟩ := at_lt hlt
   have hpn := HP.o p (List.mem_of_getElem? hpj)
   obtain ⟨g, hA, c0, c1⟩ := (HS.o.on HW.o).el hy hpj
   dsimp only at hA
   subst hA
   go_upto_region 5 with fail
   obtain ⟨gi, hgi⟩ : ∃ gi, gi = wr.heap.size := ⟨_, rfl⟩
   obtain ⟨X, hX, HX, HX5, HXT⟩ : ∃ Z9, Z9 = wr.alloc (.cells #[.int .i64 p.1, .int .i64 p.2] 180) /\ Hid (Below w.heap.size w Z9) /\ Hid (Blk Z9 gi 180 [.int .i64 p.1, .int .i64 p.2]) /\ Hid (Blk Z9 w.heap.size 91 [.int .i64 t, .bool b, .int .i64 a]) := ⟨_, rfl, HW.o.trans ((Below.refl _ _).alloc HW.o.size _), by rw [hgi]; exact Blk.new _ _ _, HT.o.alloc _⟩
   rw [<- hX, <- hgi]
   clear hX hgi c0 c1
   have b0 := HX5.o.cell (i := 0) rfl
   have u2 := HXT.o.cell (i := 2) rfl
   by_cases hsk : o = 3 /\ (p.1 : Int) ≠ a
   ·obtain ⟨rfl, hne⟩ := hsk
    have d1 : ((p.1 : Int) != a) = true := by simpa using hne
    have d2 : decide ((p.1 : Int) = a) = false := by simpa using hne
    go_wp2_with fail
    go_roundg (gk - 1)
    case measure => omega
    case rel =>
     refine ⟨j + 1, by omega, by go_num, fun e he => ?_, HX, HXT⟩
     rw [take_snoc hpj] at he
     rcases List.mem_append.1 he with he | he
     ·exact HK.o e he
     ·rw [List.mem_singleton] at he
      subst he
      exact ⟨rfl, hne⟩
   ·have HO := Lh (outQ_hit HK.o hpj hsk)
    have HDe : Hid (∀ Z : World, Z.ownsRow 0 180 2 (.slice (some ⟨g, 0, none⟩) q.length yk) q.length (pdVals q) -> Calls Tryz.prog 99 #[.slice (some ⟨g, 0, none⟩) q.length yk, .int .i64 j, .int .i64 ((j : Int) + 1)] Z (DelR g yk (q.eraseIdx j) Z)) := fun Z hz => del_any g yk j q Z hz hlt hq
    have hw1 : IntKind.i64.wrap ((j : Int) + 1) = (j : Int) + 1 := IntWalk.i64_in _ (by omega)
    go_cut [33] (fun s33 wc => s33 = .bool false /\ wc = X)
    case first =>
     by_cases h3 : o = 3
     ·subst h3
      have he : (p.1 : Int) = a := by
       by_cases he : (p.1 : Int) = a
       ·exact he
       ·exact absurd ⟨rfl, he⟩ hsk
      have d1 : ((p.1 : Int) != a) = false := by simp [he]
      have d2 : decide ((p.1 : Int) = a) = true := by simp [he]
      go_wp2_with fail
      go_meet
      exact ⟨rfl, rfl⟩
     ·have h3 : ¬ (o : Int) = 3 := by omega
      have d1 : ((o : Int) == 3) = false := by simp [h3]
      have d2 : decide ((o : Int) = 3) = false := by simp [h3]
      go_wp2_with fail
      go_meet
      exact ⟨rfl, rfl⟩
    case rest =>
    obtain ⟨rfl, hwc⟩ := hcut
    subst hwc
    obtain ⟨Y0, rfl⟩ : ∃ Y0, Y0 = wc := ⟨_, rfl⟩
    have HSX := Lh (HS.o.on HX.o)
    have s0 := (HB.o.below HX.o HB.o.lt).cell (i := 0) rfl
    have b1 := HX5.o.cell (i := 1) rfl
    have f0 : Y0.frozen? ⟨h.gw, p.1, none⟩ = false := HSX.o.w.frozen _
    have f1 : Y0.cell? ⟨h.gw, p.1, none⟩ = some (.int .i64 (S.w p.1)) := HSX.o.wordc hpn
    have e8 : (0 : Int) <= p.1 := by omega
    have e9 : (p.1 : Int) < nw := by omega
    go_upto_region 6 with fail
    go_still_tail 9, (by kernel_rfl)
    go_upto_region 7 with fail
    have hsz : Below (Y0.setCell ⟨h.gw, p.1, none⟩ (.int .i64 p.2)).heap.size (Y0.setCell ⟨h.gw, p.1, none⟩ (.int .i64 p.2)) (Y0.setCell ⟨h.gw, p.1, none⟩ (.int .i64 p.2)).drew := (Below.refl _ _).drew
    have hb1 := (HB.o.below HX.o HB.o.lt).far (HSX.o.w.ne (HB.o.below HX.o HB.o.lt) (by decide)) (p := ⟨h.gw, p.1, none⟩) (.int .i64 p.2)
    have ht1 := HXT.o.far (HSX.o.w.ne HXT.o (by decide)) (p := ⟨h.gw, p.1, none⟩) (.int .i64 p.2)
    obtain ⟨Y, hY, HY, HYb, HYT, HYF⟩ : ∃ Z9, Z9 = (Y0.setCell ⟨h.gw, p.1, none⟩ (.int .i64 p.2)).drew /\ Hid (StQ Z9 h n nw ⟨S.ws.set p.1 p.2, S.rs, S.ps⟩ bs) /\ Hid (Blk Z9 gs 77 (stL h n nw)) /\ Hid (Blk Z9 w.heap.size 91 [.int .i64 t, .bool b, .int .i64 a]) /\ Hid (Fr (SQ h bs) w Z9) :=
     ⟨_, rfl, (HSX.o.setW _ _).on hsz, hb1.below hsz hb1.lt, ht1.below hsz ht1.lt, ((Fr.of HX.o).setCell (Or.inl rfl) _).trans (Fr.of hsz)⟩
    clear hsz hb1 ht1
    rw [<- hY]
    clear hY b0 b1 u2 s0 f0 f1 HSX HX HX5 HXT
    have HOw := Lh (HY.o.own _ (List.mem_of_getElem? hy)).2
    have HSo : Hid (∀ Z, Y.grownBy Z (some g) -> Z.cell? ⟨gs, 3, none⟩ = some (.slice (some ⟨h.gb, 0, none⟩) n h.kb) /\ Z.cell? ⟨w.heap.size, 0, none⟩ = some (.int .i64 t) /\ Z.cell? ⟨h.gb, t, none⟩ = some (.slice (some ⟨g, 0, none⟩) q.length yk) /\ Z.frozen? ⟨h.gb, t, none⟩ = false) := Lh fun Z hg => by
     have hb9 := HYb.o.grown hg (own_nb HOw.o HYb.o (by decide))
     have ht9 := HYT.o.grown hg (own_nb HOw.o HYT.o (by decide))
     have hr9 := HY.o.b.grown hg (own_nr HOw.o HY.o.b (by decide))
     exact ⟨hb9.cell rfl, ht9.cell rfl, hr9.cell (by rw [List.getElem?_map, hy]; rfl), hr9.frozen _⟩
    obtain ⟨c3, cu, cc, cf⟩ := HSo.o Y ⟨rfl, rfl, rfl, Nat.le_refl _, fun _ _ _ => rfl⟩
    go_region_with ((go_at_call 99; go_must (refine (HDe.o _ (HOw.o.below (Below.refl _ _).drew)).mono ?_; rintro e w3 ⟨rfl, ho3, hg3⟩; have hg4 : Y.grownBy w3 (some g) := ⟨hg3.os, hg3.tape, hg3.output, hg3.size, hg3.block⟩; obtain ⟨z3, zu, zc, zf⟩ := HSo.o _ hg4)))
    all_goals (
     go_wp2_with fail
     go_ret
     rw [HO.o]
     have hm := List.mem_of_getElem? hy
     refine ⟨rfl, bs.set t ⟨(some ⟨g, 0, none⟩, (q.eraseIdx j).length, yk), q.eraseIdx j⟩, HY.o.put hy hg4 ho3 (Or.inl rfl), ?_, NewB.set hm (Or.inl rfl), (HYF.o.grown hg4 fun g9 hg9 => ?_).setCell (Or.inr (Or.inr (Or.inr (Or.inl rfl)))) _, fun h9 => by cases h9⟩
     ·rw [List.map_set]; rfl
     ·injection hg9 with hg9
      exact Or.inr (Or.inr (Or.inr (Or.inr ⟨_, hm, congrArg some hg9⟩))))
  ·obtain rfl : j = q.length := by omega
   rw [List.take_length] at HK
   have HO := Lh (outQ_end HK.o)
   go_wp2_with fail
   go_ret
   rw [HO.o]
   refine ⟨rfl, bs, HS.o.on HW.o, ?_, NewB.refl _ _, Fr.of HW.o, fun _ => rfl⟩
   show _ = (bs.map (·.q)).set t q
   apply List.ext_getElem?
   intro i
   by_cases hi : t = i
   ·subst hi
    rw [List.getElem?_set_self (by rw [List.length_map]; exact (List.getElem?_eq_some_iff.1 hy).1), List.getElem?_map, hy]
    rfl
   ·rw [List.getElem?_set_ne hi]
end Go.Proofs.YtgjdgapfnfhklaaGreat
