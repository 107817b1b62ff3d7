/-
reclaimref27.Free in memory: the states that are still to be
-/
import Derived.Test.YtgjdgapfnfhklaaGreatZ10
import Derived.Test.YtgjdgapfnfhklaaGreatPut
import Derived.Test.YtgjdgapfnfhklaaGreatCp27
import Derived.Test.YtgjdgapfnfhklaaGreatZ13
import Derived.Test.YtgjdgapfnfhklaaGreatFlt
import Derived.Deep.MidRow
set_option linter.unusedSimpArgs false
set_option linter.unusedVariables false
namespace Go.Proofs.YtgjdgapfnfhklaaGreat
open Go.RowKit
def RM.foot (M : RM) (g : Nat) : Prop := g = M.h.gw ∨ g = M.h.gr ∨ g = M.h.gp ∨ g = M.h.gb ∨ g = M.gm ∨ g = M.gd ∨ g ∈ M.ms ∨ (∃ p ∈ M.ws, p.1 = g) ∨ (∃ p ∈ M.cs, p.1 = g) ∨ M.vE.ownBlock = some g
section
variable {W W' : World} {B n nw : Nat} {S : LS} {x : TS} {es : List Ev} {M : RM}
theorem RSB.keepP (h : RSB W B n nw S x es M) (hk : ∀ g, M.foot g -> W'.heap[g]? = W.heap[g]?) : RSB W' B n nw S x es M where
 st := ⟨h.st.w.kept (hk _ (Or.inl rfl)), h.st.r.kept (hk _ (Or.inr (Or.inl rfl))), h.st.p.kept (hk _ (Or.inr (Or.inr (Or.inl rfl)))), h.st.b.kept (hk _ (Or.inr (Or.inr (Or.inr (Or.inl rfl))))), h.st.ne⟩
 nu := h.nu
 gmB := h.gmB
 gdB := h.gdB
 mi := h.mi.kept (hk _ (Or.inr (Or.inr (Or.inr (Or.inr (Or.inl rfl))))))
 mr := fun i g hg => ⟨(h.mr i g hg).1, (h.mr i g hg).2.kept (hk _ (Or.inr (Or.inr (Or.inr (Or.inr (Or.inr (Or.inr (Or.inl (List.mem_of_getElem? hg)))))))))⟩
 wi := h.wi.kept (hk _ (Or.inr (Or.inr (Or.inr (Or.inr (Or.inr (Or.inl rfl)))))))
 wr := fun a p hp => ⟨(h.wr a p hp).1, (h.wr a p hp).2.kept (hk _ (Or.inr (Or.inr (Or.inr (Or.inr (Or.inr (Or.inr (Or.inr (Or.inl ⟨p, List.mem_of_getElem? hp, rfl⟩)))))))))⟩
 ev := own_keepT h.ev fun g hg => hk g (Or.inr (Or.inr (Or.inr (Or.inr (Or.inr (Or.inr (Or.inr (Or.inr (Or.inr hg)))))))))
 cl := h.cl
 cr := fun j p hp => ⟨(h.cr j p hp).1, (h.cr j p hp).2.kept (hk _ (Or.inr (Or.inr (Or.inr (Or.inr (Or.inr (Or.inr (Or.inr (Or.inr (Or.inl ⟨p, List.mem_of_getElem? hp, rfl⟩))))))))))⟩
 nd := h.nd
 gg := h.gg
 wB := h.wB
 cB := h.cB
theorem RSB.foot_lt (h : RSB W B n nw S x es M) : ∀ g, M.foot g -> g < W.heap.size := by
 rintro g (rfl | rfl | rfl | rfl | rfl | rfl | hg | ⟨p, hp, rfl⟩ | ⟨p, hp, rfl⟩ | hg)
 ·exact h.st.w.lt
 ·exact h.st.r.lt
 ·exact h.st.p.lt
 ·exact h.st.b.lt
 ·exact h.mi.lt
 ·exact h.wi.lt
 ·obtain ⟨i, hi⟩ := List.mem_iff_getElem?.1 hg
  exact (h.mr i g hi).2.lt
 ·obtain ⟨i, hi⟩ := List.mem_iff_getElem?.1 hp
  exact (h.wr i p hi).2.lt
 ·obtain ⟨i, hi⟩ := List.mem_iff_getElem?.1 hp
  exact (h.cr i p hi).2.lt
 ·exact (h.ev.lt g hg).2
theorem RSB.foot_ge (h : RSB W B n nw S x es M) : ∀ g, M.foot g -> B <= g ∨ M.Z g := by
 rintro g (rfl | rfl | rfl | rfl | rfl | rfl | hg | ⟨p, hp, rfl⟩ | ⟨p, hp, rfl⟩ | hg)
 ·exact Or.inl h.nu.1
 ·exact Or.inl h.nu.2.1
 ·exact Or.inl h.nu.2.2.1
 ·exact Or.inl h.nu.2.2.2
 ·exact Or.inl h.gmB
 ·exact Or.inl h.gdB
 ·obtain ⟨i, hi⟩ := List.mem_iff_getElem?.1 hg
  exact Or.inl (h.mr i g hi).1
 ·obtain ⟨i, hi⟩ := List.mem_iff_getElem?.1 hp
  exact Or.inl (h.wB i p hi)
 ·obtain ⟨i, hi⟩ := List.mem_iff_getElem?.1 hp
  exact h.cB i p hi
 ·exact Or.inl (h.ev.lt g hg).1
theorem RSB.foot_new {W : World} {B n nw : Nat} {S : LS} {x : TS} {M : RM} (h : RSB W B n nw S x [] M) : ∀ g, M.foot g -> B <= g := by
 intro g hg
 have hc : M.cs = [] := List.length_eq_zero_iff.1 h.cl
 rcases hg with rfl | rfl | rfl | rfl | rfl | rfl | hg | ⟨p, hp, rfl⟩ | ⟨p, hp, rfl⟩ | hg
 ·exact h.nu.1
 ·exact h.nu.2.1
 ·exact h.nu.2.2.1
 ·exact h.nu.2.2.2
 ·exact h.gmB
 ·exact h.gdB
 ·obtain ⟨i, hi⟩ := List.mem_iff_getElem?.1 hg
  exact (h.mr i g hi).1
 ·obtain ⟨i, hi⟩ := List.mem_iff_getElem?.1 hp
  exact h.wB i p hi
 ·rw [hc] at hp
  cases hp
 ·exact (h.ev.lt g hg).1
theorem RM.foot_cs {M : RM} {g : Nat} (h : ∃ p ∈ M.cs, p.1 = g) : M.foot g := Or.inr (Or.inr (Or.inr (Or.inr (Or.inr (Or.inr (Or.inr (Or.inr (Or.inl h))))))))
end
def stC (n nw : Nat) (o : Option RM) : List Value := match o with
 | some M => stL M.h n nw ++ [.slice (some ⟨M.gm, 0, none⟩) n M.km, .slice (some ⟨M.gd, 0, none⟩) nw M.kd, M.vE]
 | none => [.slice none 0 0, .slice none 0 0, .slice none 0 0, .slice none 0 0, .slice none 0 0, .slice none 0 0, .slice none 0 0]
theorem stC_some {n nw : Nat} {M : RM} {v : Value} (h : M.vE = v) : stC n nw (some M) = stL M.h n nw ++ [.slice (some ⟨M.gm, 0, none⟩) n M.km, .slice (some ⟨M.gd, 0, none⟩) nw M.kd, v] := by subst h; rfl
theorem stC_len (n nw : Nat) (o : Option RM) : (stC n nw o).length = 7 := by cases o <;> rfl
theorem stC_at {n nw : Nat} {l : List (Option RM)} {j : Nat} {o : Option RM} (h : l[j]? = some o) {i : Nat} (hi : i < 7) : (l.flatMap (stC n nw))[j * 7 + i]? = (stC n nw o)[i]? := flat_get (stC n nw) 7 (stC_len n nw) h i hi
theorem TrX.off {W : World} {B gt q : Nat} {t : TypeId} {ks : List (List Int)} {L R : List Int} {vK vL vR : Value} {hs : List (Nat × Nat)} {cs : List Value} (h : TrX W B gt ks L R vK vL vR hs) (hb : Blk W q t cs) (h1 : t ≠ 74) (h2 : t ≠ 22) (h3 : t ≠ 3) : ¬ trF gt vK vL vR q := by
 rintro (e | e | e | e)
 ·subst e
  have h9 := h.blk
  unfold Blk at hb h9
  rw [hb] at h9
  injection h9 with h9
  injection h9 with _ h9
  exact h1 h9
 ·exact own_nb h.kK hb (fun e9 => h2 e9.symm) e
 ·exact own_nb h.kL hb (fun e9 => h3 e9.symm) e
 ·exact own_nb h.kR hb (fun e9 => h3 e9.symm) e
theorem own_off {W : World} {B gt B' e s n : Nat} {v : Value} {xs : List Value} {ks : List (List Int)} {L R : List Int} {vK vL vR : Value} {hs : List (Nat × Nat)} (h : TrX W B gt ks L R vK vL vR hs) (ho : W.ownsRow B' e s v n xs) (h1 : e ≠ 74) (h2 : e ≠ 22) (h3 : e ≠ 3) : ∀ q, v.ownBlock = some q -> ¬ trF gt vK vL vR q := by
 intro q hq
 rcases ho.2 with ⟨rfl, _⟩ | ⟨g, cap, cur, rfl, _, hg, _⟩
 ·cases hq
 ·injection hq with hq
  subst hq
  exact h.off (cs := cur.toList) (by unfold Blk; rw [hg]) h1 h2 h3
theorem own_blk {W : World} {B e s n q : Nat} {v : Value} {xs : List Value} (h : W.ownsRow B e s v n xs) (hq : v.ownBlock = some q) : ∃ cs, Blk W q e cs := by
 rcases h.2 with ⟨rfl, _⟩ | ⟨g, cap, cur, rfl, _, hg, _⟩
 ·cases hq
 ·injection hq with hq
  have hq' : g = q := hq
  subst hq'
  exact ⟨cur.toList, by unfold Blk; rw [hg]⟩
theorem Blk.ty {W : World} {q t t' : Nat} {cs cs' : List Value} (h : Blk W q t cs) (h' : Blk W q t' cs') : t = t' := by
 unfold Blk at h h'
 rw [h] at h'
 injection h' with h'
 injection h' with _ h'
theorem Rw.ty {W : World} {q t t' sz n k : Nat} {xs cs : List Value} (h : Rw W q t sz n k xs) (h' : Blk W q t' cs) : t = t' := by
 obtain ⟨_, c9, h9, _⟩ := h
 exact Blk.ty h9 h'
def NotR (W : World) (q : Nat) : Prop := (∀ cs, ¬ Blk W q 80 cs) /\ ∀ cs, ¬ Blk W q 28 cs
theorem Rw.notR {W : World} {q t sz n k : Nat} {xs : List Value} (h : Rw W q t sz n k xs) (h1 : t ≠ 80) (h2 : t ≠ 28) : NotR W q := ⟨fun _ hb => h1 (h.ty hb), fun _ hb => h2 (h.ty hb)⟩
theorem Blk.notR {W : World} {q t : Nat} {xs : List Value} (h : Blk W q t xs) (h1 : t ≠ 80) (h2 : t ≠ 28) : NotR W q := ⟨fun _ hb => h1 (Blk.ty h hb), fun _ hb => h2 (Blk.ty h hb)⟩
theorem own_notR {W : World} {B e s n q : Nat} {v : Value} {xs : List Value} (h : W.ownsRow B e s v n xs) (hq : v.ownBlock = some q) (h1 : e ≠ 80) (h2 : e ≠ 28) : NotR W q := by
 obtain ⟨cs, hb⟩ := own_blk h hq
 exact hb.notR h1 h2
theorem RSB.foot_notR {W : World} {B n nw : Nat} {S : LS} {x : TS} {es : List Ev} {M : RM} (h : RSB W B n nw S x es M) : ∀ g, M.foot g -> NotR W g := by
 rintro g (rfl | rfl | rfl | rfl | rfl | rfl | hg | ⟨p, hp, rfl⟩ | ⟨p, hp, rfl⟩ | hg)
 ·exact h.st.w.notR (by decide) (by decide)
 ·exact h.st.r.notR (by decide) (by decide)
 ·exact h.st.p.notR (by decide) (by decide)
 ·exact h.st.b.notR (by decide) (by decide)
 ·exact h.mi.notR (by decide) (by decide)
 ·exact h.wi.notR (by decide) (by decide)
 ·obtain ⟨i, hi⟩ := List.mem_iff_getElem?.1 hg
  exact (h.mr i g hi).2.notR (by decide) (by decide)
 ·obtain ⟨i, hi⟩ := List.mem_iff_getElem?.1 hp
  exact (h.wr i p hi).2.notR (by decide) (by decide)
 ·obtain ⟨i, hi⟩ := List.mem_iff_getElem?.1 hp
  exact (h.cr i p hi).2.notR (by decide) (by decide)
 ·exact own_notR h.ev hg (by decide) (by decide)
structure RfI (l : Lit) (w W : World) (gt : Nat) (T : Tr) (vK vL vR : Value) (ths : List (Nat × Nat)) (PN : Nd -> RM -> Prop) (PW : Nd -> Value -> Prop) (sts : List (Option RM)) (wys : List Value) (vA vW : Value) : Prop where
 bel : Below w.heap.size w W
 lit : Blk W w.heap.size 25 (litL l)
 tr : TrM W w.heap.size gt T vK vL vR ths
 all : W.ownsRow w.heap.size 80 7 vA sts.length (sts.flatMap (stC l.tn l.wn))
 ways : W.ownsRow w.heap.size 28 1 vW wys.length wys
 node : ∀ x M, PN x M -> RSB W w.heap.size l.tn l.wn x.S (xAt x.es) x.es M /\ ∀ g, M.foot g -> ¬ trF gt vK vL vR g
 way : ∀ x v, PW x v -> W.ownsRow w.heap.size 91 3 v x.way.length (tnVals (x.way.map tnW))
structure RfQ (l : Lit) (T : Tr) (ns : List Nd) (PN : Nd -> RM -> Prop) (PW : Nd -> Value -> Prop) (sts : List (Option RM)) (wys : List Value) (i : Nat) : Prop where
 tk : T.ks = ns.map (keyN l)
 sl : sts.length = ns.length
 yl : wys.length = ns.length
 nd : ∀ (j : Nat) (x : Nd), i <= j -> ns[j]? = some x -> ∃ M, sts[j]? = some (some M) /\ PN x M
 wy : ∀ (j : Nat) (x : Nd), ns[j]? = some x -> ∃ v, wys[j]? = some v /\ PW x v
 ok : OkNs l ns
section
variable {l : Lit} {w W W' : World} {gt : Nat} {T : Tr} {vK vL vR : Value} {ths : List (Nat × Nat)} {PN : Nd -> RM -> Prop} {PW : Nd -> Value -> Prop} {ns : List Nd} {sts : List (Option RM)} {wys : List Value} {vA vW : Value} {i : Nat}
theorem RfI.on (H : RfI l w W gt T vK vL vR ths PN PW sts wys vA vW) (hb : Below W.heap.size W W') : RfI l w W' gt T vK vL vR ths PN PW sts wys vA vW where
 bel := H.bel.trans (hb.mono H.bel.size)
 lit := H.lit.below hb H.lit.lt
 tr := ⟨H.tr.1.on hb, H.tr.2⟩
 all := H.all.below hb
 ways := H.ways.below hb
 node := fun x M h1 => ⟨(H.node x M h1).1.on hb, (H.node x M h1).2⟩
 way := fun x v h1 => (H.way x v h1).below hb
theorem RfI.addN (H : RfI l w W gt T vK vL vR ths PN PW sts wys vA vW) {y : Nd} {M2 : RM} {vy : Value} (hr : RSB W w.heap.size l.tn l.wn y.S (xAt y.es) y.es M2) (hn : ∀ g, M2.foot g -> ¬ trF gt vK vL vR g) (hv : W.ownsRow w.heap.size 91 3 vy y.way.length (tnVals (y.way.map tnW))) :
  RfI l w W gt T vK vL vR ths (fun x M => PN x M ∨ (x = y /\ M = M2)) (fun x v => PW x v ∨ (x = y /\ v = vy)) sts wys vA vW where
 bel := H.bel
 lit := H.lit
 tr := H.tr
 all := H.all
 ways := H.ways
 node := fun x M h1 => by
  rcases h1 with h1 | ⟨rfl, rfl⟩
  ·exact H.node x M h1
  ·exact ⟨hr, hn⟩
 way := fun x v h1 => by
  rcases h1 with h1 | ⟨rfl, rfl⟩
  ·exact H.way x v h1
  ·exact hv
theorem RfI.put {T' : Tr} {vK' vL' vR' : Value} {ths' : List (Nat × Nat)} (H : RfI l w W gt T vK vL vR ths PN PW sts wys vA vW) (ht : TrM W' w.heap.size gt T' vK' vL' vR' ths') (hf : Fr (trF gt vK vL vR) W W') (hq : ∀ q, trF gt vK' vL' vR' q -> trF gt vK vL vR q ∨ W.heap.size <= q) :
  RfI l w W' gt T' vK' vL' vR' ths' PN PW sts wys vA vW := by
 have hX := H.tr.1
 have ko : ∀ {e s n : Nat} {v : Value} {xs : List Value}, W.ownsRow w.heap.size e s v n xs -> e ≠ 74 -> e ≠ 22 -> e ≠ 3 -> W'.ownsRow w.heap.size e s v n xs := fun ho h1 h2 h3 => own_keepT ho fun g hg => hf.block g (ho.lt g hg).2 (own_off hX ho h1 h2 h3 g hg)
 refine ⟨H.bel.trans (hf.to_below H.bel.size hX.low), H.lit.kept (hf.block _ H.lit.lt (hX.off H.lit (by decide) (by decide) (by decide))), ht, ko H.all (by decide) (by decide) (by decide), ko H.ways (by decide) (by decide) (by decide), fun x M h1 => ?_, fun x v h1 => ko (H.way x v h1) (by decide) (by decide) (by decide)⟩
 obtain ⟨hr, hn⟩ := H.node x M h1
 refine ⟨hr.keepP fun g hg => hf.block g (hr.foot_lt g hg) (hn g hg), fun g hg ht' => ?_⟩
 rcases hq g ht' with h9 | h9
 ·exact hn g hg h9
 ·have := hr.foot_lt g hg
  omega
theorem TrX.but {B : Nat} {ks : List (List Int)} {L R : List Int} {hs : List (Nat × Nat)} (h : TrX W B gt ks L R vK vL vR hs) (hk : ∀ q, q < W.heap.size -> NotR W q -> W'.heap[q]? = W.heap[q]?) : TrX W' B gt ks L R vK vL vR hs where
 blk := h.blk.kept (hk _ h.blk.lt (h.blk.notR (by decide) (by decide)))
 gtB := h.gtB
 kK := own_keepT h.kK fun g e => hk g (h.kK.lt g e).2 (own_notR h.kK e (by decide) (by decide))
 kL := own_keepT h.kL fun g e => hk g (h.kL.lt g e).2 (own_notR h.kL e (by decide) (by decide))
 kR := own_keepT h.kR fun g e => hk g (h.kR.lt g e).2 (own_notR h.kR e (by decide) (by decide))
 hl := h.hl
 rows := fun i k p e1 e2 => ⟨(h.rows i k p e1 e2).1.kept (hk _ (h.rows i k p e1 e2).1.lt ((h.rows i k p e1 e2).1.notR (by decide) (by decide))), (h.rows i k p e1 e2).2⟩
 ap := h.ap
theorem notR_of {B e s n : Nat} {v : Value} {xs : List Value} (h : W.ownsRow B e s v n xs) (he : e = 80 ∨ e = 28) {q : Nat} (hn : NotR W q) : some q ≠ v.ownBlock := fun hq => by
 obtain ⟨cs, hb⟩ := own_blk h hq.symm
 rcases he with rfl | rfl
 ·exact hn.1 cs hb
 ·exact hn.2 cs hb
theorem RfI.allG {vA' : Value} {sts' : List (Option RM)} (H : RfI l w W gt T vK vL vR ths PN PW sts wys vA vW) (hb : Below w.heap.size w W') (hf : ∀ q, q < W.heap.size -> some q ≠ vA.ownBlock -> W'.heap[q]? = W.heap[q]?)
  (ho : W'.ownsRow w.heap.size 80 7 vA' sts'.length (sts'.flatMap (stC l.tn l.wn))) : RfI l w W' gt T vK vL vR ths PN PW sts' wys vA' vW := by
 have hk : ∀ q, q < W.heap.size -> NotR W q -> W'.heap[q]? = W.heap[q]? := fun q h1 h2 => hf q h1 (notR_of H.all (Or.inl rfl) h2)
 have kw : ∀ q, vW.ownBlock = some q -> W'.heap[q]? = W.heap[q]? := fun q hq => hf q (H.ways.lt q hq).2 (fun e => by
  obtain ⟨c1, h1⟩ := own_blk H.ways hq
  obtain ⟨c2, h2⟩ := own_blk H.all e.symm
  exact absurd (Blk.ty h1 h2) (by decide))
 exact {
  bel := hb
  lit := H.lit.kept (hk _ H.lit.lt (H.lit.notR (by decide) (by decide)))
  tr := ⟨H.tr.1.but hk, H.tr.2⟩
  all := ho
  ways := own_keepT H.ways kw
  node := fun x M h1 => ⟨(H.node x M h1).1.keepP fun g hg => hk g ((H.node x M h1).1.foot_lt g hg) ((H.node x M h1).1.foot_notR g hg), (H.node x M h1).2⟩
  way := fun x v h1 => own_keepT (H.way x v h1) fun g hg => hk g ((H.way x v h1).lt g hg).2 (own_notR (H.way x v h1) hg (by decide) (by decide)) }
theorem RfI.waysG {vW' : Value} {wys' : List Value} (H : RfI l w W gt T vK vL vR ths PN PW sts wys vA vW) (hb : Below w.heap.size w W') (hf : ∀ q, q < W.heap.size -> some q ≠ vW.ownBlock -> W'.heap[q]? = W.heap[q]?)
  (ho : W'.ownsRow w.heap.size 28 1 vW' wys'.length wys') : RfI l w W' gt T vK vL vR ths PN PW sts wys' vA vW' := by
 have hk : ∀ q, q < W.heap.size -> NotR W q -> W'.heap[q]? = W.heap[q]? := fun q h1 h2 => hf q h1 (notR_of H.ways (Or.inr rfl) h2)
 have kw : ∀ q, vA.ownBlock = some q -> W'.heap[q]? = W.heap[q]? := fun q hq => hf q (H.all.lt q hq).2 (fun e => by
  obtain ⟨c1, h1⟩ := own_blk H.all hq
  obtain ⟨c2, h2⟩ := own_blk H.ways e.symm
  exact absurd (Blk.ty h1 h2) (by decide))
 exact {
  bel := hb
  lit := H.lit.kept (hk _ H.lit.lt (H.lit.notR (by decide) (by decide)))
  tr := ⟨H.tr.1.but hk, H.tr.2⟩
  all := own_keepT H.all kw
  ways := ho
  node := fun x M h1 => ⟨(H.node x M h1).1.keepP fun g hg => hk g ((H.node x M h1).1.foot_lt g hg) ((H.node x M h1).1.foot_notR g hg), (H.node x M h1).2⟩
  way := fun x v h1 => own_keepT (H.way x v h1) fun g hg => hk g ((H.way x v h1).lt g hg).2 (own_notR (H.way x v h1) hg (by decide) (by decide)) }
def setRq : List Value -> Nat -> List Value -> List Value
 | xs, _, [] => xs
 | xs, o, v :: r => setRq (xs.set o v) (o + 1) r
theorem setQ_get : ∀ (r : List Value) (xs : List Value) (o j : Nat), o + r.length <= xs.length -> (setRq xs o r)[j]? = if o <= j /\ j < o + r.length then r[j - o]? else xs[j]?
 | [], xs, o, j, _ => by rw [setRq, if_neg (by simp only [List.length_nil]; omega)]
 | v :: r, xs, o, j, h => by
  rw [List.length_cons] at h
  rw [setRq, setQ_get r _ _ _ (by rw [List.length_set]; omega), List.length_cons]
  by_cases h1 : o + 1 <= j /\ j < o + 1 + r.length
  ·rw [if_pos h1, if_pos (by omega), show j - o = (j - (o + 1)) + 1 from by omega, List.getElem?_cons_succ]
  ·rw [if_neg h1]
   by_cases h2 : o = j
   ·subst h2
    rw [if_pos (by omega), Nat.sub_self, List.getElem?_set_self (by omega)]
    rfl
   ·rw [if_neg (by omega), List.getElem?_set_ne h2]
theorem setQ_flat {α : Type} (f : α -> List Value) (q : Nat) (hf : ∀ x, (f x).length = q) (l : List α) (i : Nat) (x : α) (hi : i < l.length) : setRq (l.flatMap f) (i * q) (f x) = (l.set i x).flatMap f := by
 have hle : i * q + q <= l.length * q := by
  have := Nat.mul_le_mul_right q (show i + 1 <= l.length from hi)
  rw [Nat.add_mul, Nat.one_mul] at this
  exact this
 refine List.ext_getElem? fun j => ?_
 rw [setQ_get _ _ _ _ (by rw [flat_len f q hf, hf]; exact hle), hf]
 by_cases hq : q = 0
 ·have h1 : (l.flatMap f).length = 0 := by rw [flat_len f q hf, hq, Nat.mul_zero]
  have h2 : ((l.set i x).flatMap f).length = 0 := by rw [flat_len f q hf, hq, Nat.mul_zero]
  rw [if_neg (by omega), List.length_eq_zero_iff.1 h1, List.length_eq_zero_iff.1 h2]
 have hdm := Nat.div_add_mod j q
 rw [Nat.mul_comm] at hdm
 have hm := Nat.mod_lt j (Nat.pos_of_ne_zero hq)
 by_cases hlt : j / q < l.length
 ·have hne : ∀ {m : List α} {y : α}, m[j / q]? = some y -> (m.flatMap f)[j]? = (f y)[j % q]? := fun hy => by
   have h9 := flat_get f q hf hy _ hm
   rw [hdm] at h9
   exact h9
  by_cases he : j / q = i
  ·rw [if_pos (by rw [<- he]; omega), hne (m := l.set i x) (y := x) (by rw [he]; exact List.getElem?_set_self hi)]
   congr 1
   rw [<- he]
   omega
  ·have hout : ¬ (i * q <= j /\ j < i * q + q) := by
    rintro ⟨a, b⟩
    refine he ?_
    have h1 : i <= j / q := (Nat.le_div_iff_mul_le (Nat.pos_of_ne_zero hq)).2 a
    have h2 : j / q < i + 1 := (Nat.div_lt_iff_lt_mul (Nat.pos_of_ne_zero hq)).2 (by rw [Nat.add_mul, Nat.one_mul]; exact b)
    omega
   obtain ⟨y, hy⟩ := at_lt hlt
   rw [if_neg hout, hne hy, hne (m := l.set i x) (y := y) (by rw [List.getElem?_set_ne (fun e => he e.symm)]; exact hy)]
 ·have hge : l.length * q <= j := by
   have := (Nat.le_div_iff_mul_le (Nat.pos_of_ne_zero hq)).1 (Nat.le_of_not_lt hlt)
   exact this
  rw [if_neg (by omega), List.getElem?_eq_none (by rw [flat_len f q hf]; exact hge), List.getElem?_eq_none (by rw [flat_len f q hf, List.length_set]; exact hge)]
theorem gb_setCells {g : Nat} : ∀ (r : List Value) (o : Nat) (W' : World), W.grownBy W' (some g) -> W.grownBy (W'.setCells g o r) (some g)
 | [], _, _, h => h
 | v :: r, o, W', h => gb_setCells r (o + 1) _ (gb_setCell h o v)
theorem Rw.setCells {g t sz n k : Nat} : ∀ (r : List Value) (o : Nat) (W : World) (xs : List Value), Rw W g t sz n k xs -> Rw (W.setCells g o r) g t sz n k (setRq xs o r)
 | [], _, _, _, h => h
 | v :: r, o, W, xs, h => Rw.setCells r (o + 1) _ _ (h.set_ o v)
theorem RfI.done {g n k : Nat} (H : RfI l w W gt T vK vL vR ths PN PW sts wys (.slice (some ⟨g, 0, none⟩) n k) vW) (hn : sts.length = n) (hi : i < n) :
  RfI l w (W.setCells g (i * 7) (stC l.tn l.wn none)) gt T vK vL vR ths PN PW (sts.set i none) wys (.slice (some ⟨g, 0, none⟩) n k) vW := by
 subst hn
 obtain ⟨hB, hr⟩ : w.heap.size <= g /\ Rw W g 80 7 sts.length k (sts.flatMap (stC l.tn l.wn)) := by
  obtain ⟨_, e, hB, hr⟩ := Rw.of_own H.all (by omega)
  injection e with e
  injection e with e _
  subst e
  exact ⟨hB, hr⟩
 have hg : W.grownBy (W.setCells g (i * 7) (stC l.tn l.wn none)) (some g) := gb_setCells (stC l.tn l.wn none) (i * 7) W (World.grownBy.refl W (some g))
 have h9 := Rw.setCells (stC l.tn l.wn none) (i * 7) W _ hr
 rw [setQ_flat (stC l.tn l.wn) 7 (stC_len l.tn l.wn) sts i none hi] at h9
 generalize W.setCells g (i * 7) (stC l.tn l.wn none) = W' at hg h9 ⊢
 refine H.allG (H.bel.grown hg H.bel.size (fun q hq => by injection hq with hq; omega)) (fun q h1 h2 => hg.block q h1 h2) ?_
 rw [List.length_set]
 exact h9.own hB
theorem RfI.there {g n k : Nat} (H : RfI l w W gt T vK vL vR ths PN PW sts wys (.slice (some ⟨g, 0, none⟩) n k) vW) (hn : sts.length = n) (hi : i < n) : W.there g (i * 7) 7 := by
 subst hn
 obtain ⟨hB, hr⟩ : w.heap.size <= g /\ Rw W g 80 7 sts.length k (sts.flatMap (stC l.tn l.wn)) := by
  obtain ⟨_, e, hB, hr⟩ := Rw.of_own H.all (by omega)
  injection e with e
  injection e with e _
  subst e
  exact ⟨hB, hr⟩
 intro j hj
 obtain ⟨o, ho⟩ := at_lt hi
 have h9 := stC_at (n := l.tn) (nw := l.wn) ho hj
 obtain ⟨v, hv⟩ := at_lt (show j < (stC l.tn l.wn o).length by rw [stC_len]; exact hj)
 rw [hr.cell (h9.trans hv)]
 exact ⟨rfl, hr.frozen _⟩
theorem RfQ.done (H : RfQ l T ns PN PW sts wys i) : RfQ l T ns PN PW (sts.set i none) wys (i + 1) where
 tk := H.tk
 sl := by rw [List.length_set]; exact H.sl
 yl := H.yl
 nd := fun j x hj hx => by
  obtain ⟨M, h1, h2⟩ := H.nd j x (by omega) hx
  exact ⟨M, by rw [List.getElem?_set_ne (by omega)]; exact h1, h2⟩
 wy := H.wy
 ok := H.ok
theorem RfQ.snoc {T' : Tr} {y : Nd} {M2 : RM} {vy : Value} (H : RfQ l T ns PN PW sts wys i) (ht : T'.ks = T.ks ++ [keyN l y]) (ho : OkNs l (ns ++ [y])) :
  RfQ l T' (ns ++ [y]) (fun x M => PN x M ∨ (x = y /\ M = M2)) (fun x v => PW x v ∨ (x = y /\ v = vy)) (sts ++ [some M2]) (wys ++ [vy]) i where
 tk := by rw [ht, H.tk]; simp
 sl := by simp [H.sl]
 yl := by simp [H.yl]
 nd := fun j x hj hx => by
  by_cases hlt : j < ns.length
  ·rw [List.getElem?_append_left hlt] at hx
   obtain ⟨M, h1, h2⟩ := H.nd j x hj hx
   exact ⟨M, by rw [List.getElem?_append_left (by rw [H.sl]; exact hlt)]; exact h1, Or.inl h2⟩
  ·have hj2 := (List.getElem?_eq_some_iff.1 hx).1
   rw [List.length_append, List.length_singleton] at hj2
   obtain rfl : j = ns.length := by omega
   simp at hx
   subst hx
   exact ⟨M2, by rw [<- H.sl]; simp, Or.inr ⟨rfl, rfl⟩⟩
 wy := fun j x hx => by
  by_cases hlt : j < ns.length
  ·rw [List.getElem?_append_left hlt] at hx
   obtain ⟨v, h1, h2⟩ := H.wy j x hx
   exact ⟨v, by rw [List.getElem?_append_left (by rw [H.yl]; exact hlt)]; exact h1, Or.inl h2⟩
  ·have hj2 := (List.getElem?_eq_some_iff.1 hx).1
   rw [List.length_append, List.length_singleton] at hj2
   obtain rfl : j = ns.length := by omega
   simp at hx
   subst hx
   exact ⟨vy, by rw [<- H.yl]; simp, Or.inr ⟨rfl, rfl⟩⟩
 ok := ho
end
end Go.Proofs.YtgjdgapfnfhklaaGreat
