/-
Operations on whole nodes taken one by one: build, load, all
-/
import Derived.Test.YtgjdgapfnfhklaaGreatZ13
import Derived.Test.YtgjdgapfnfhklaaGreatZ19
import Derived.Test.YtgjdgapfnfhklaaGreatMad
import Derived.Test.YtgjdgapfnfhklaaGreatBeg
import Derived.Great.Walk
import Derived.Great.BuildSlice
set_option linter.unusedSimpArgs false
set_option linter.unusedVariables false
set_option maxRecDepth 100000
namespace Go.Proofs.YtgjdgapfnfhklaaGreat
open Go.RowKit Go.Maps
section
variable {P : Program} {ρ : Operand -> Value} {o : Oper} {w : World}
theorem exec_build (t : TypeId) (parts : Array (Nat × Operand)) (ho : o.op = .build t parts) (cells : Array Value) (hf : P.built t (parts.map fun (i, x) => (i, ρ x)).toList = some cells) : (execOp ρ o).run P w = .ok (.value (.agg cells)) w := by
 unfold execOp
 simp only [ho, Sem.run_bind, run_build w t _ cells hf, Result.andThen_ok, Sem.run_pure]
theorem exec_load_mid (ty : TypeId) (x : Operand) (ho : o.op = .load ty x) (b off : Nat) (hx : ρ x = .pointer (some ⟨b, off, none⟩)) (cs : List Value) (d : TypeDesc) (hc : w.rangeAt b off cs)
  (hu : P.underlying ty = some d) (hd : d.isRow = true) (hi : (P.info? ty).map (·.size) = some cs.length) : (execOp ρ o).run P w = .ok (.value (.agg cs.toArray)) w := by
 unfold execOp
 simp only [ho, hx, Instr.loadAt, Instr.sureAddr, Sem.run_bind, Sem.run_pure, Result.andThen_ok, run_loadVar_mid w b off ty cs d hc hu hd hi]
end
theorem zero_nd (w : World) : (zeroValue 105).run Tryz.prog w = .ok (.agg zeroNd.toArray) w := by
 have h : (Tryz.prog.info? 105).map (fun i => (i.zero, i.size)) = some (some (.agg zeroNd.toArray), 168) := by kernel_rfl
 exact (zero_of_info h).1 w
theorem exec_alloc_nd {ρ : Operand -> Value} {o : Oper} {w : World} (ho : o.op = .alloc 105) : (execOp ρ o).run Tryz.prog w = .ok (.value (.pointer (some ⟨w.heap.size, 0, none⟩))) (w.alloc (.cells zeroNd.toArray 105)) := by
 unfold execOp
 simp only [ho, Sem.run_bind]
 rw [show (Instr.alloc 105 true (.tuple #[])).run Tryz.prog w = .ok (.pointer (some ⟨w.heap.size, 0, none⟩)) (w.alloc (.cells zeroNd.toArray 105)) from by
  simp [Instr.alloc, newVar, zero_nd, Value.cells, newRow]
  rfl]
 rfl
theorem wp_alloc_nd {o : Oper} {a : Act} {w : World} {K : Act -> World -> Prop} {Q : Exit -> Act -> World -> Prop} (ho : o.op = .alloc 105) (h : K (a.put o.dst (.pointer (some ⟨w.heap.size, 0, none⟩))) (w.alloc (.cells zeroNd.toArray 105))) : o.wp Tryz.prog a w K Q := by
 unfold Oper.wp
 rw [exec_alloc_nd ho, Oper.upon_value]
 exact h
theorem info_nd : (Tryz.prog.info? 105).map (fun i => (i.zero, i.size, i.bytes)) = some (some (.agg zeroNd.toArray), 168, 1408) := by kernel_rfl
theorem wpList_nodSlice {ops : Array Oper} {rest : List Oper} {o : Oper} {a : Act} {w : World} {Q : Exit -> Act -> World -> Prop} (hgd : o.guard = none) (x : Operand) (ho : o.op = .buildSlice 106 1 #[(0, x)]) (cs : List Value) (hl : cs.length = 168) (hx : a.eval x = .agg cs.toArray)
  (h : wpList Tryz.prog ops Q rest (a.put o.dst (.slice (some ⟨w.heap.size, 0, none⟩) 1 1)) (w.alloc (.cells cs.toArray 105))) : wpList Tryz.prog ops Q (o :: rest) a w := by
 obtain ⟨i, hi, hz, hs, _⟩ := info_parts info_nd
 refine wpList_buildSlice hgd 106 105 1 #[(0, x)] ho cs.toArray i (.agg zeroNd.toArray) Tryz.underlying106 hi hz (by rw [hs]; decide) (by rw [hs]; decide) ?_ h
 rw [Array.toList_map, hs]
 show Instr.fill _ _ [(0, a.eval x)] = _
 rw [hx]
 have := Go.Great.fill_whole (s := 168) (by decide) [.agg cs.toArray] ((Array.range (1 * 168)).map ((Value.agg zeroNd.toArray).cells[· % (Value.agg zeroNd.toArray).cells.size]!)) (by intro v hv; simp at hv; subst hv; simpa [Value.cells] using hl) (by simp)
 simpa [Value.cells] using this
theorem wpList_build_start {ops : Array Oper} {rest : List Oper} {o : Oper} {a : Act} {w : World} {Q : Exit -> Act -> World -> Prop} (hgd : o.guard = none) (x y : Operand) (ho : o.op = .build 105 #[(0, x), (2, y)]) (s : List Value) (hs : s.length = 4) (fr : Int) (hx : a.eval x = .agg s.toArray) (hy : a.eval y = .int .i64 fr) (L0 : List Value) (hL0 : L0 = s ++ (List.replicate 162 (Value.int .i64 0) ++ [Value.int .i64 fr, Value.int .i64 0]))
  (h : wpList Tryz.prog ops Q rest (a.put o.dst (.agg L0.toArray)) w) : wpList Tryz.prog ops Q (o :: rest) a w := by
 refine Go.wpList_buildTo hgd 105 _ ho _ rfl _ ?_ h
 rw [Array.toList_map]
 show Tryz.prog.built 105 [(0, a.eval x), (2, a.eval y)] = _
 rw [hx, hy, hL0]
 exact built_start hs
theorem exec_build_node {ρ : Operand -> Value} {o : Oper} {w : World} (x y z u : Operand) (ho : o.op = .build 105 #[(0, x), (1, y), (2, z), (3, u)]) (s p : List Value) (hs : s.length = 4) (hp : p.length = 162) (fr b : Int) (hx : ρ x = .agg s.toArray) (hy : ρ y = .agg p.toArray) (hz : ρ z = .int .i64 fr) (hu : ρ u = .int .i64 b) :
  (execOp ρ o).run Tryz.prog w = .ok (.value (.agg (s ++ (p ++ [Value.int .i64 fr, Value.int .i64 b])).toArray)) w := by
 refine exec_build _ _ ho _ ?_
 rw [Array.toList_map]
 show Tryz.prog.built 105 [(0, ρ x), (1, ρ y), (2, ρ z), (3, ρ u)] = _
 rw [hx, hy, hz, hu]
 exact built_node hs hp
theorem size_pic : (Tryz.prog.info? 103).map (·.size) = some 162 := by kernel_rfl
theorem Blk.pic {W : World} {g : Nat} {s p r : List Value} (h : Blk W g 105 (s ++ (p ++ r))) (hs : s.length = 4) : W.rangeAt g 4 p := fun j v hv => by
 have hj := (List.getElem?_eq_some_iff.1 hv).1
 refine h.cell ?_
 rw [List.getElem?_append_right (by omega), hs, List.getElem?_append_left (by omega), show 4 + j - 4 = j by omega]
 exact hv
theorem ParOf.mono {ws : List WN} {p q : WN} (h : ParOf ws p) : ParOf (ws ++ [q]) p := by
 rcases h with h | ⟨a, t, pq, h1, h2, h3, h4⟩
 ·exact Or.inl h
 ·exact Or.inr ⟨a, t, pq, h1, h2, by rw [List.getElem?_append_left (List.getElem?_eq_some_iff.1 h3).1]; exact h3, h4⟩
theorem Rw.ngm {W : World} {g gm t sz n k m : Nat} {xs : List Value} {ks : List (List Value)} (h : Rw W g t sz n k xs) (hm : PicMap W gm m ks) : g ≠ gm := by
 obtain ⟨_, cs, h1, _⟩ := h
 obtain ⟨D, ⟨es, clock, h2, _⟩, _⟩ := hm
 rintro rfl
 unfold Blk at h1
 rw [h1] at h2
 cases h2
theorem Blk.ngm {W : World} {g gm m : Nat} {t : TypeId} {xs : List Value} {ks : List (List Value)} (h1 : Blk W g t xs) (hm : PicMap W gm m ks) : g ≠ gm := by
 obtain ⟨D, ⟨es, clock, h2, _⟩, _⟩ := hm
 rintro rfl
 unfold Blk at h1
 rw [h1] at h2
 cases h2
section
variable {W W' : World} {h : SH} {n nw : Nat} {S : LS}
theorem StAt.gbr {row : Option Nat} (s : StAt W h n nw S) (hg : W.grownBy W' row) (h1 : ∀ g, (g = h.gw ∨ g = h.gr ∨ g = h.gp ∨ g = h.gb) -> some g ≠ row) : StAt W' h n nw S :=
 ⟨s.w.grown hg (h1 _ (Or.inl rfl)), s.r.grown hg (h1 _ (Or.inr (Or.inl rfl))), s.p.grown hg (h1 _ (Or.inr (Or.inr (Or.inl rfl)))), s.b.grown hg (h1 _ (Or.inr (Or.inr (Or.inr rfl)))), s.ne⟩
theorem StAt.gbm {gm m : Nat} {ks : List (List Value)} (s : StAt W h n nw S) (hm : PicMap W gm m ks) (hg : W.grownBy W' (some gm)) : StAt W' h n nw S := s.gbr hg (by
 rintro g (rfl | rfl | rfl | rfl) e <;> injection e with e
 ·exact s.w.ngm hm e
 ·exact s.r.ngm hm e
 ·exact s.p.ngm hm e
 ·exact s.b.ngm hm e)
theorem StAt.gbo {B m sz : Nat} {v : Value} {xs : List Value} (s : StAt W h n nw S) (ho : W.ownsRow B 105 sz v m xs) (hg : W.grownBy W' v.ownBlock) : StAt W' h n nw S := s.gbr hg (by
 rintro g (rfl | rfl | rfl | rfl)
 ·exact own_nr ho s.w (by decide)
 ·exact own_nr ho s.r (by decide)
 ·exact own_nr ho s.p (by decide)
 ·exact own_nr ho s.b (by decide))
theorem StAt.keepN (s : StAt W h n nw S) {g : Nat} {cs : List Value} (hb : Blk W g 105 cs) (hf : Fr (fun q => q = g) W W') : StAt W' h n nw S :=
 ⟨s.w.kept (hf.block _ s.w.lt (fun e => s.w.nb hb (by decide) e)), s.r.kept (hf.block _ s.r.lt (fun e => s.r.nb hb (by decide) e)), s.p.kept (hf.block _ s.p.lt (fun e => s.p.nb hb (by decide) e)), s.b.kept (hf.block _ s.b.lt (fun e => s.b.nb hb (by decide) e)), s.ne⟩
end
theorem own_keepX {W W' : World} {B s n : Nat} {e : TypeId} {v : Value} {xs : List Value} (h : W.ownsRow B e s v n xs) (hk : ∀ g, v.ownBlock = some g -> W'.heap[g]? = W.heap[g]?) : W'.ownsRow B e s v n xs := by
 obtain ⟨h1, h2⟩ := h
 refine ⟨h1, h2.imp id fun ⟨g, cap, cur, hv, hB, hg, h3⟩ => ⟨g, cap, cur, hv, hB, ?_, h3⟩⟩
 rw [hk g (by rw [hv]; rfl)]
 exact hg
structure PfI (l : Lit) (w W : World) (gm : Nat) (ns : List Nd) (hs : List SH) (ws : List WN) (vN : Value) : Prop where
 bel : Below w.heap.size w W
 gmB : w.heap.size < gm
 lit : Blk W w.heap.size 25 (litL l)
 hl : hs.length = ns.length
 wl : ws.length = ns.length
 own : W.ownsRow w.heap.size 105 168 vN ns.length (ws.flatMap WN.cs)
 node : ∀ (j : Nat) (x : Nd) (h : SH) (p : WN), ns[j]? = some x -> hs[j]? = some h -> ws[j]? = some p -> p.cs = nodL h l.tn l.wn x p.fr p.by_ /\ p.wy = x.way /\ StAt W h l.tn l.wn x.S /\ WfS x.S
 par : ∀ (j : Nat) (p : WN), ws[j]? = some p -> ParOf ws p
 ok : OkNs l ns
 map : PicMap W gm ns.length (ns.map picV)
 ap : some gm ≠ vN.ownBlock
section
variable {l : Lit} {w W W' : World} {gm : Nat} {ns : List Nd} {hs : List SH} {ws : List WN} {vN : Value}
theorem PfI.on (H : PfI l w W gm ns hs ws vN) (hb : Below W.heap.size W W') : PfI l w W' gm ns hs ws vN where
 bel := H.bel.trans (hb.mono H.bel.size)
 gmB := H.gmB
 lit := H.lit.below hb H.lit.lt
 hl := H.hl
 wl := H.wl
 own := H.own.below hb
 node := fun j x h p h1 h2 h3 => by
  obtain ⟨a, b, c, d⟩ := H.node j x h p h1 h2 h3
  exact ⟨a, b, c.on hb, d⟩
 par := H.par
 ok := H.ok
 map := H.map.on hb
 ap := H.ap
theorem PfI.keepN (H : PfI l w W gm ns hs ws vN) {g : Nat} {cs : List Value} (hb : Blk W g 105 cs) (hg : w.heap.size < g) (hgo : some g ≠ vN.ownBlock) (hf : Fr (fun q => q = g) W W') : PfI l w W' gm ns hs ws vN where
 bel := H.bel.trans (hf.to_below H.bel.size (fun q hq => by rw [hq]; omega))
 gmB := H.gmB
 lit := H.lit.kept (hf.block _ H.lit.lt (fun e => by have e' : w.heap.size = g := e; omega))
 hl := H.hl
 wl := H.wl
 own := own_keepX H.own fun q hq => hf.block q (H.own.lt q hq).2 (fun e => hgo (by rw [hq]; exact congrArg some (show g = q from Eq.symm e)))
 node := fun j x h p h1 h2 h3 => by
  obtain ⟨a, b, c, d⟩ := H.node j x h p h1 h2 h3
  exact ⟨a, b, c.keepN hb hf, d⟩
 par := H.par
 ok := H.ok
 map := H.map.kept (row := some g) ⟨hf.os, hf.tape, hf.output, hf.size, fun q hq hne => hf.block q hq (fun e => hne (by rw [show q = g from e]))⟩ (fun e => by injection e with e; exact hb.ngm H.map e.symm)
 ap := H.ap
theorem PfI.put {pic : List Value} (H : PfI l w W gm ns hs ws vN) (hm : PicMap W' gm (ns.length + 1) (ns.map picV ++ [pic])) (hg : W.grownBy W' (some gm)) :
  Below w.heap.size w W' /\ Blk W' w.heap.size 25 (litL l) /\ W'.ownsRow w.heap.size 105 168 vN ns.length (ws.flatMap WN.cs) /\
  (∀ (j : Nat) (x : Nd) (h : SH) (p : WN), ns[j]? = some x -> hs[j]? = some h -> ws[j]? = some p -> p.cs = nodL h l.tn l.wn x p.fr p.by_ /\ p.wy = x.way /\ StAt W' h l.tn l.wn x.S /\ WfS x.S) := by
 have hgm := H.gmB
 refine ⟨H.bel.grown hg H.bel.size (fun q hq => by injection hq with hq; omega), H.lit.grown hg (fun e => by injection e with e; omega), H.own.kept hg ?_, fun j x h p h1 h2 h3 => ?_⟩
 ·cases hv : vN.ownBlock with
  | none => exact Or.inl rfl
  | some q => exact Or.inr (fun e => H.ap (by rw [hv, e]))
 ·obtain ⟨a, b, c, d⟩ := H.node j x h p h1 h2 h3
  exact ⟨a, b, c.gbm H.map hg, d⟩
theorem PfI.snoc {k : Nd} {p : WN} {h : SH} {W2 W3 : World} {v' : Value} (H : PfI l w W gm ns hs ws vN)
  (hP : Below w.heap.size w W' /\ Blk W' w.heap.size 25 (litL l) /\ W'.ownsRow w.heap.size 105 168 vN ns.length (ws.flatMap WN.cs) /\
   (∀ (j : Nat) (x : Nd) (h : SH) (p : WN), ns[j]? = some x -> hs[j]? = some h -> ws[j]? = some p -> p.cs = nodL h l.tn l.wn x p.fr p.by_ /\ p.wy = x.way /\ StAt W' h l.tn l.wn x.S /\ WfS x.S))
  (hm : PicMap W' gm (ns.length + 1) (ns.map picV ++ [picV k])) (hst : StAt W' h l.tn l.wn k.S) (hw : WfS k.S) (hpc : p.cs = nodL h l.tn l.wn k p.fr p.by_) (hpw : p.wy = k.way) (hpar : ParOf ws p) (hok : OkNs l (ns ++ [k]))
  (ha : W'.grownBy W2 vN.ownBlock) (hg : W2.grownBy W3 vN.ownBlock) (ho : W3.ownsRow w.heap.size 105 168 v' (ns.length + 1) (ws.flatMap WN.cs ++ p.cs)) (hat : v'.ownBlock = vN.ownBlock ∨ v'.ownBlock = some W2.heap.size) :
  PfI l w W3 gm (ns ++ [k]) (hs ++ [h]) (ws ++ [p]) v' := by
 obtain ⟨p1, p2, p3, p4⟩ := hP
 have HG := ha.trans hg
 exact {
  bel := p1.grown HG p1.size (fun q hq => (p3.lt q hq).1)
  gmB := H.gmB
  lit := p2.grown HG (own_nb p3 p2 (by decide))
  hl := by simp [H.hl]
  wl := by simp [H.wl]
  own := by
   rw [List.flatMap_append, List.flatMap_cons, List.flatMap_nil, List.append_nil, List.length_append]
   exact ho
  node := fun j x h' q e1 e2 e3 => by
   by_cases hj : j < ns.length
   ·rw [List.getElem?_append_left hj] at e1
    rw [List.getElem?_append_left (by rw [H.hl]; exact hj)] at e2
    rw [List.getElem?_append_left (by rw [H.wl]; exact hj)] at e3
    obtain ⟨a, b, c, d⟩ := p4 j x h' q e1 e2 e3
    exact ⟨a, b, c.gbo p3 HG, d⟩
   ·have hj2 : j = ns.length := by
     have := (List.getElem?_eq_some_iff.1 e1).1
     simp at this
     omega
    subst hj2
    rw [List.getElem?_append_right (Nat.le_refl _), Nat.sub_self] at e1
    rw [<- H.hl, List.getElem?_append_right (Nat.le_refl _), Nat.sub_self] at e2
    rw [<- H.wl, List.getElem?_append_right (Nat.le_refl _), Nat.sub_self] at e3
    simp at e1 e2 e3
    subst e1 e2 e3
    exact ⟨hpc, hpw, hst.gbo p3 HG, hw⟩
  par := fun j q e3 => by
   by_cases hj : j < ws.length
   ·rw [List.getElem?_append_left hj] at e3
    exact (H.par j q e3).mono
   ·have hj2 : j = ws.length := by
     have := (List.getElem?_eq_some_iff.1 e3).1
     simp at this
     omega
    subst hj2
    rw [List.getElem?_append_right (Nat.le_refl _), Nat.sub_self] at e3
    simp at e3
    subst e3
    exact hpar.mono
  ok := hok
  map := by
   rw [List.map_append, List.length_append]
   exact hm.kept HG H.ap
  ap := by
   rcases hat with e | e
   ·rw [e]; exact H.ap
   ·rw [e]
    intro e9
    injection e9 with e9
    have := hm.lt
    have := ha.size
    omega }
end
theorem nodL_oneL {x : Nd} (h : SH) {n nw : Nat} (fr b : Int) : ∀ v ∈ nodL h n nw x fr b, v.oneCell' = true := by
 intro v hv
 unfold nodL at hv
 simp only [List.mem_append] at hv
 rcases hv with h1 | h1 | h1
 ·simp at h1
  rcases h1 with rfl | rfl | rfl | rfl <;> rfl
 ·exact picV_one x v h1
 ·simp at h1
  rcases h1 with rfl | rfl <;> rfl
end Go.Proofs.YtgjdgapfnfhklaaGreat
