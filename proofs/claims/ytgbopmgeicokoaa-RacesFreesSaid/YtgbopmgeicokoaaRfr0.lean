/-
  reclaimref27.Free in memory: the states that are still to be gone through, their ways, the tree of keys. No walk.
  reclaimref27.Free: all states of a litmus program gone through, breadth first, with a tree of keys.
-/
import Derived.Test.YtgbopmgeicokoaaBfs
import Derived.Test.YtgbopmgeicokoaaPut0
import Derived.Test.YtgbopmgeicokoaaCp27
import Derived.Test.YtgbopmgeicokoaaWay
import Derived.Test.YtgbopmgeicokoaaFlt
import Derived.Deep.MidRow
import Derived.Test.YtgbopmgeicokoaaRpl
import Derived.Deep.RegionHeld3
namespace Go.Proofs.Ytgbopmgeicokoaa
open Go.RowKit
set_option linter.unusedSimpArgs false
set_option linter.unusedVariables false

/-- the blocks of a state -/
def RM.foot (M : RM) (g : Nat) : Prop := g = M.h.gw ∨ g = M.h.gr ∨ g = M.h.gp ∨ g = M.h.gb ∨ g = M.gm ∨ g = M.gd ∨ g ∈ M.ms ∨ (∃ p ∈ M.ws, p.1 = g) ∨ (∃ p ∈ M.cs, p.1 = g) ∨ M.vE.ownBlock = some g
section
variable {W W' : World} {B n nw : Nat} {S : LS} {x : TS} {es : List Ev} {M : RM}
theorem RSB.keepP (h : RSB W B n nw S x es M) (hk : ∀ g, M.foot g → W'.heap[g]? = W.heap[g]?) : RSB W' B n nw S x es M where
  st := ⟨h.st.w.kept (hk _ (Or.inl rfl)), h.st.r.kept (hk _ (Or.inr (Or.inl rfl))), h.st.p.kept (hk _ (Or.inr (Or.inr (Or.inl rfl)))), h.st.b.kept (hk _ (Or.inr (Or.inr (Or.inr (Or.inl rfl))))), h.st.ne⟩
  nu := h.nu
  gmB := h.gmB
  gdB := h.gdB
  mi := h.mi.kept (hk _ (Or.inr (Or.inr (Or.inr (Or.inr (Or.inl rfl))))))
  mr := fun i g hg => ⟨(h.mr i g hg).1, (h.mr i g hg).2.kept (hk _ (Or.inr (Or.inr (Or.inr (Or.inr (Or.inr (Or.inr (Or.inl (List.mem_of_getElem? hg)))))))))⟩
  wi := h.wi.kept (hk _ (Or.inr (Or.inr (Or.inr (Or.inr (Or.inr (Or.inl rfl)))))))
  wr := fun a p hp => ⟨(h.wr a p hp).1, (h.wr a p hp).2.kept (hk _ (Or.inr (Or.inr (Or.inr (Or.inr (Or.inr (Or.inr (Or.inr (Or.inl ⟨p, List.mem_of_getElem? hp, rfl⟩)))))))))⟩
  ev := own_keepT h.ev fun g hg => hk g (Or.inr (Or.inr (Or.inr (Or.inr (Or.inr (Or.inr (Or.inr (Or.inr (Or.inr hg)))))))))
  cl := h.cl
  cr := fun j p hp => ⟨(h.cr j p hp).1, (h.cr j p hp).2.kept (hk _ (Or.inr (Or.inr (Or.inr (Or.inr (Or.inr (Or.inr (Or.inr (Or.inr (Or.inl ⟨p, List.mem_of_getElem? hp, rfl⟩))))))))))⟩
  nd := h.nd
  gg := h.gg
  wB := h.wB
  cB := h.cB
theorem RSB.foot_lt (h : RSB W B n nw S x es M) : ∀ g, M.foot g → g < W.heap.size := by
  rintro g (rfl | rfl | rfl | rfl | rfl | rfl | hg | ⟨p, hp, rfl⟩ | ⟨p, hp, rfl⟩ | hg)
  · exact h.st.w.lt
  · exact h.st.r.lt
  · exact h.st.p.lt
  · exact h.st.b.lt
  · exact h.mi.lt
  · exact h.wi.lt
  · obtain ⟨i, hi⟩ := List.mem_iff_getElem?.1 hg
    exact (h.mr i g hi).2.lt
  · obtain ⟨i, hi⟩ := List.mem_iff_getElem?.1 hp
    exact (h.wr i p hi).2.lt
  · obtain ⟨i, hi⟩ := List.mem_iff_getElem?.1 hp
    exact (h.cr i p hi).2.lt
  · exact (h.ev.lt g hg).2
theorem RSB.foot_ge (h : RSB W B n nw S x es M) : ∀ g, M.foot g → B ≤ g ∨ M.Z g := by
  rintro g (rfl | rfl | rfl | rfl | rfl | rfl | hg | ⟨p, hp, rfl⟩ | ⟨p, hp, rfl⟩ | hg)
  · exact Or.inl h.nu.1
  · exact Or.inl h.nu.2.1
  · exact Or.inl h.nu.2.2.1
  · exact Or.inl h.nu.2.2.2
  · exact Or.inl h.gmB
  · exact Or.inl h.gdB
  · obtain ⟨i, hi⟩ := List.mem_iff_getElem?.1 hg
    exact Or.inl (h.mr i g hi).1
  · obtain ⟨i, hi⟩ := List.mem_iff_getElem?.1 hp
    exact Or.inl (h.wB i p hi)
  · obtain ⟨i, hi⟩ := List.mem_iff_getElem?.1 hp
    exact h.cB i p hi
  · exact Or.inl (h.ev.lt g hg).1
theorem RSB.foot_new {W : World} {B n nw : Nat} {S : LS} {x : TS} {M : RM} (h : RSB W B n nw S x [] M) : ∀ g, M.foot g → B ≤ g := by
  intro g hg
  have hc : M.cs = [] := List.length_eq_zero_iff.1 h.cl
  rcases hg with rfl | rfl | rfl | rfl | rfl | rfl | hg | ⟨p, hp, rfl⟩ | ⟨p, hp, rfl⟩ | hg
  · exact h.nu.1
  · exact h.nu.2.1
  · exact h.nu.2.2.1
  · exact h.nu.2.2.2
  · exact h.gmB
  · exact h.gdB
  · obtain ⟨i, hi⟩ := List.mem_iff_getElem?.1 hg
    exact (h.mr i g hi).1
  · obtain ⟨i, hi⟩ := List.mem_iff_getElem?.1 hp
    exact h.wB i p hi
  · rw [hc] at hp
    cases hp
  · exact (h.ev.lt g hg).1
theorem RM.foot_cs {M : RM} {g : Nat} (h : ∃ p ∈ M.cs, p.1 = g) : M.foot g := Or.inr (Or.inr (Or.inr (Or.inr (Or.inr (Or.inr (Or.inr (Or.inr (Or.inl h))))))))
end
/-- a state's cells; a state that is done is zeroed -/
def stC (n nw : Nat) (o : Option RM) : List Value := match o with
  | some M => stL M.h n nw ++ [.slice (some ⟨M.gm, 0, none⟩) n M.km, .slice (some ⟨M.gd, 0, none⟩) nw M.kd, M.vE]
  | none => [.slice none 0 0, .slice none 0 0, .slice none 0 0, .slice none 0 0, .slice none 0 0, .slice none 0 0, .slice none 0 0]
theorem stC_some {n nw : Nat} {M : RM} {v : Value} (h : M.vE = v) : stC n nw (some M) = stL M.h n nw ++ [.slice (some ⟨M.gm, 0, none⟩) n M.km, .slice (some ⟨M.gd, 0, none⟩) nw M.kd, v] := by subst h; rfl
theorem stC_len (n nw : Nat) (o : Option RM) : (stC n nw o).length = 7 := by cases o <;> rfl
theorem stC_at {n nw : Nat} {l : List (Option RM)} {j : Nat} {o : Option RM} (h : l[j]? = some o) {i : Nat} (hi : i < 7) : (l.flatMap (stC n nw))[j * 7 + i]? = (stC n nw o)[i]? := flat_get (stC n nw) 7 (stC_len n nw) h i hi
theorem TrX.off {W : World} {B gt q : Nat} {t : TypeId} {ks : List (List Int)} {L R : List Int} {vK vL vR : Value} {hs : List (Nat × Nat)} {cs : List Value} (h : TrX W B gt ks L R vK vL vR hs) (hb : Blk W q t cs) (h1 : t ≠ 221) (h2 : t ≠ 30) (h3 : t ≠ 3) : ¬ trF gt vK vL vR q := by
  rintro (e | e | e | e)
  · subst e
    have h9 := h.blk
    unfold Blk at hb h9
    rw [hb] at h9
    injection h9 with h9
    injection h9 with _ h9
    exact h1 h9
  · exact own_nb h.kK hb (fun e9 => h2 e9.symm) e
  · exact own_nb h.kL hb (fun e9 => h3 e9.symm) e
  · exact own_nb h.kR hb (fun e9 => h3 e9.symm) e
theorem own_off {W : World} {B gt B' e s n : Nat} {v : Value} {xs : List Value} {ks : List (List Int)} {L R : List Int} {vK vL vR : Value} {hs : List (Nat × Nat)} (h : TrX W B gt ks L R vK vL vR hs) (ho : W.ownsRow B' e s v n xs) (h1 : e ≠ 221) (h2 : e ≠ 30) (h3 : e ≠ 3) : ∀ q, v.ownBlock = some q → ¬ trF gt vK vL vR q := by
  intro q hq
  rcases ho.2 with ⟨rfl, _⟩ | ⟨g, cap, cur, rfl, _, hg, _⟩
  · cases hq
  · injection hq with hq
    subst hq
    exact h.off (cs := cur.toList) (by unfold Blk; rw [hg]) h1 h2 h3
theorem own_blk {W : World} {B e s n q : Nat} {v : Value} {xs : List Value} (h : W.ownsRow B e s v n xs) (hq : v.ownBlock = some q) : ∃ cs, Blk W q e cs := by
  rcases h.2 with ⟨rfl, _⟩ | ⟨g, cap, cur, rfl, _, hg, _⟩
  · cases hq
  · injection hq with hq
    have hq' : g = q := hq
    subst hq'
    exact ⟨cur.toList, by unfold Blk; rw [hg]⟩
theorem Blk.ty {W : World} {q t t' : Nat} {cs cs' : List Value} (h : Blk W q t cs) (h' : Blk W q t' cs') : t = t' := by
  unfold Blk at h h'
  rw [h] at h'
  injection h' with h'
  injection h' with _ h'
theorem Rw.ty {W : World} {q t t' sz n k : Nat} {xs cs : List Value} (h : Rw W q t sz n k xs) (h' : Blk W q t' cs) : t = t' := by
  obtain ⟨_, c9, h9, _⟩ := h
  exact Blk.ty h9 h'
/-- a block is of neither the states' nor the ways' row -/
def NotR (W : World) (q : Nat) : Prop := (∀ cs, ¬ Blk W q 116 cs) ∧ ∀ cs, ¬ Blk W q 102 cs
theorem Rw.notR {W : World} {q t sz n k : Nat} {xs : List Value} (h : Rw W q t sz n k xs) (h1 : t ≠ 116) (h2 : t ≠ 102) : NotR W q := ⟨fun _ hb => h1 (h.ty hb), fun _ hb => h2 (h.ty hb)⟩
theorem Blk.notR {W : World} {q t : Nat} {xs : List Value} (h : Blk W q t xs) (h1 : t ≠ 116) (h2 : t ≠ 102) : NotR W q := ⟨fun _ hb => h1 (Blk.ty h hb), fun _ hb => h2 (Blk.ty h hb)⟩
theorem own_notR {W : World} {B e s n q : Nat} {v : Value} {xs : List Value} (h : W.ownsRow B e s v n xs) (hq : v.ownBlock = some q) (h1 : e ≠ 116) (h2 : e ≠ 102) : NotR W q := by
  obtain ⟨cs, hb⟩ := own_blk h hq
  exact hb.notR h1 h2
theorem RSB.foot_notR {W : World} {B n nw : Nat} {S : LS} {x : TS} {es : List Ev} {M : RM} (h : RSB W B n nw S x es M) : ∀ g, M.foot g → NotR W g := by
  rintro g (rfl | rfl | rfl | rfl | rfl | rfl | hg | ⟨p, hp, rfl⟩ | ⟨p, hp, rfl⟩ | hg)
  · exact h.st.w.notR (by decide) (by decide)
  · exact h.st.r.notR (by decide) (by decide)
  · exact h.st.p.notR (by decide) (by decide)
  · exact h.st.b.notR (by decide) (by decide)
  · exact h.mi.notR (by decide) (by decide)
  · exact h.wi.notR (by decide) (by decide)
  · obtain ⟨i, hi⟩ := List.mem_iff_getElem?.1 hg
    exact (h.mr i g hi).2.notR (by decide) (by decide)
  · obtain ⟨i, hi⟩ := List.mem_iff_getElem?.1 hp
    exact (h.wr i p hi).2.notR (by decide) (by decide)
  · obtain ⟨i, hi⟩ := List.mem_iff_getElem?.1 hp
    exact (h.cr i p hi).2.notR (by decide) (by decide)
  · exact own_notR h.ev hg (by decide) (by decide)
/-- the search's memory -/
structure RfI (l : Lit) (w W : World) (gt : Nat) (T : Tr) (vK vL vR : Value) (ths : List (Nat × Nat)) (PN : Nd → RM → Prop) (PW : Nd → Value → Prop) (sts : List (Option RM)) (wys : List Value) (vA vW : Value) : Prop where
  bel : Below w.heap.size w W
  lit : Blk W w.heap.size 101 (litL l)
  tr : TrM W w.heap.size gt T vK vL vR ths
  all : W.ownsRow w.heap.size 116 7 vA sts.length (sts.flatMap (stC l.tn l.wn))
  ways : W.ownsRow w.heap.size 102 1 vW wys.length wys
  node : ∀ x M, PN x M → RSB W w.heap.size l.tn l.wn x.S (xAt x.es) x.es M ∧ ∀ g, M.foot g → ¬ trF gt vK vL vR g
  way : ∀ x v, PW x v → W.ownsRow w.heap.size 131 3 v x.way.length (tnVals (x.way.map tnW))
/-- what it means -/
structure RfQ (l : Lit) (T : Tr) (ns : List Nd) (PN : Nd → RM → Prop) (PW : Nd → Value → Prop) (sts : List (Option RM)) (wys : List Value) (i : Nat) : Prop where
  tk : T.ks = ns.map (keyN l)
  sl : sts.length = ns.length
  yl : wys.length = ns.length
  nd : ∀ (j : Nat) (x : Nd), i ≤ j → ns[j]? = some x → ∃ M, sts[j]? = some (some M) ∧ PN x M
  wy : ∀ (j : Nat) (x : Nd), ns[j]? = some x → ∃ v, wys[j]? = some v ∧ PW x v
  ok : OkNs l ns
section
variable {l : Lit} {w W W' : World} {gt : Nat} {T : Tr} {vK vL vR : Value} {ths : List (Nat × Nat)} {PN : Nd → RM → Prop} {PW : Nd → Value → Prop} {ns : List Nd} {sts : List (Option RM)} {wys : List Value} {vA vW : Value} {i : Nat}
theorem RfI.on (H : RfI l w W gt T vK vL vR ths PN PW sts wys vA vW) (hb : Below W.heap.size W W') : RfI l w W' gt T vK vL vR ths PN PW sts wys vA vW where
  bel := H.bel.trans (hb.mono H.bel.size)
  lit := H.lit.below hb H.lit.lt
  tr := ⟨H.tr.1.on hb, H.tr.2⟩
  all := H.all.below hb
  ways := H.ways.below hb
  node := fun x M h1 => ⟨(H.node x M h1).1.on hb, (H.node x M h1).2⟩
  way := fun x v h1 => (H.way x v h1).below hb
/-- one node more is known -/
theorem RfI.addN (H : RfI l w W gt T vK vL vR ths PN PW sts wys vA vW) {y : Nd} {M2 : RM} {vy : Value} (hr : RSB W w.heap.size l.tn l.wn y.S (xAt y.es) y.es M2) (hn : ∀ g, M2.foot g → ¬ trF gt vK vL vR g) (hv : W.ownsRow w.heap.size 131 3 vy y.way.length (tnVals (y.way.map tnW))) :
    RfI l w W gt T vK vL vR ths (fun x M => PN x M ∨ (x = y ∧ M = M2)) (fun x v => PW x v ∨ (x = y ∧ v = vy)) sts wys vA vW where
  bel := H.bel
  lit := H.lit
  tr := H.tr
  all := H.all
  ways := H.ways
  node := fun x M h1 => by
    rcases h1 with h1 | ⟨rfl, rfl⟩
    · exact H.node x M h1
    · exact ⟨hr, hn⟩
  way := fun x v h1 => by
    rcases h1 with h1 | ⟨rfl, rfl⟩
    · exact H.way x v h1
    · exact hv
/-- a key has been put into the tree, or was there -/
theorem RfI.put {T' : Tr} {vK' vL' vR' : Value} {ths' : List (Nat × Nat)} (H : RfI l w W gt T vK vL vR ths PN PW sts wys vA vW) (ht : TrM W' w.heap.size gt T' vK' vL' vR' ths') (hf : Fr (trF gt vK vL vR) W W') (hq : ∀ q, trF gt vK' vL' vR' q → trF gt vK vL vR q ∨ W.heap.size ≤ q) :
    RfI l w W' gt T' vK' vL' vR' ths' PN PW sts wys vA vW := by
  have hX := H.tr.1
  have ko : ∀ {e s n : Nat} {v : Value} {xs : List Value}, W.ownsRow w.heap.size e s v n xs → e ≠ 221 → e ≠ 30 → e ≠ 3 → W'.ownsRow w.heap.size e s v n xs := fun ho h1 h2 h3 => own_keepT ho fun g hg => hf.block g (ho.lt g hg).2 (own_off hX ho h1 h2 h3 g hg)
  refine ⟨H.bel.trans (hf.to_below H.bel.size hX.low), H.lit.kept (hf.block _ H.lit.lt (hX.off H.lit (by decide) (by decide) (by decide))), ht, ko H.all (by decide) (by decide) (by decide), ko H.ways (by decide) (by decide) (by decide), fun x M h1 => ?_, fun x v h1 => ko (H.way x v h1) (by decide) (by decide) (by decide)⟩
  obtain ⟨hr, hn⟩ := H.node x M h1
  refine ⟨hr.keepP fun g hg => hf.block g (hr.foot_lt g hg) (hn g hg), fun g hg ht' => ?_⟩
  rcases hq g ht' with h9 | h9
  · exact hn g hg h9
  · have := hr.foot_lt g hg
    omega
theorem TrX.but {B : Nat} {ks : List (List Int)} {L R : List Int} {hs : List (Nat × Nat)} (h : TrX W B gt ks L R vK vL vR hs) (hk : ∀ q, q < W.heap.size → NotR W q → W'.heap[q]? = W.heap[q]?) : TrX W' B gt ks L R vK vL vR hs where
  blk := h.blk.kept (hk _ h.blk.lt (h.blk.notR (by decide) (by decide)))
  gtB := h.gtB
  kK := own_keepT h.kK fun g e => hk g (h.kK.lt g e).2 (own_notR h.kK e (by decide) (by decide))
  kL := own_keepT h.kL fun g e => hk g (h.kL.lt g e).2 (own_notR h.kL e (by decide) (by decide))
  kR := own_keepT h.kR fun g e => hk g (h.kR.lt g e).2 (own_notR h.kR e (by decide) (by decide))
  hl := h.hl
  rows := fun i k p e1 e2 => ⟨(h.rows i k p e1 e2).1.kept (hk _ (h.rows i k p e1 e2).1.lt ((h.rows i k p e1 e2).1.notR (by decide) (by decide))), (h.rows i k p e1 e2).2⟩
  ap := h.ap
theorem notR_of {B e s n : Nat} {v : Value} {xs : List Value} (h : W.ownsRow B e s v n xs) (he : e = 116 ∨ e = 102) {q : Nat} (hn : NotR W q) : some q ≠ v.ownBlock := fun hq => by
  obtain ⟨cs, hb⟩ := own_blk h hq.symm
  rcases he with rfl | rfl
  · exact hn.1 cs hb
  · exact hn.2 cs hb
/-- the states' row has grown or was written -/
theorem RfI.allG {vA' : Value} {sts' : List (Option RM)} (H : RfI l w W gt T vK vL vR ths PN PW sts wys vA vW) (hb : Below w.heap.size w W') (hf : ∀ q, q < W.heap.size → some q ≠ vA.ownBlock → W'.heap[q]? = W.heap[q]?)
    (ho : W'.ownsRow w.heap.size 116 7 vA' sts'.length (sts'.flatMap (stC l.tn l.wn))) : RfI l w W' gt T vK vL vR ths PN PW sts' wys vA' vW := by
  have hk : ∀ q, q < W.heap.size → NotR W q → W'.heap[q]? = W.heap[q]? := fun q h1 h2 => hf q h1 (notR_of H.all (Or.inl rfl) h2)
  have kw : ∀ q, vW.ownBlock = some q → W'.heap[q]? = W.heap[q]? := fun q hq => hf q (H.ways.lt q hq).2 (fun e => by
    obtain ⟨c1, h1⟩ := own_blk H.ways hq
    obtain ⟨c2, h2⟩ := own_blk H.all e.symm
    exact absurd (Blk.ty h1 h2) (by decide))
  exact {
    bel := hb
    lit := H.lit.kept (hk _ H.lit.lt (H.lit.notR (by decide) (by decide)))
    tr := ⟨H.tr.1.but hk, H.tr.2⟩
    all := ho
    ways := own_keepT H.ways kw
    node := fun x M h1 => ⟨(H.node x M h1).1.keepP fun g hg => hk g ((H.node x M h1).1.foot_lt g hg) ((H.node x M h1).1.foot_notR g hg), (H.node x M h1).2⟩
    way := fun x v h1 => own_keepT (H.way x v h1) fun g hg => hk g ((H.way x v h1).lt g hg).2 (own_notR (H.way x v h1) hg (by decide) (by decide)) }
/-- the ways' row has grown -/
theorem RfI.waysG {vW' : Value} {wys' : List Value} (H : RfI l w W gt T vK vL vR ths PN PW sts wys vA vW) (hb : Below w.heap.size w W') (hf : ∀ q, q < W.heap.size → some q ≠ vW.ownBlock → W'.heap[q]? = W.heap[q]?)
    (ho : W'.ownsRow w.heap.size 102 1 vW' wys'.length wys') : RfI l w W' gt T vK vL vR ths PN PW sts wys' vA vW' := by
  have hk : ∀ q, q < W.heap.size → NotR W q → W'.heap[q]? = W.heap[q]? := fun q h1 h2 => hf q h1 (notR_of H.ways (Or.inr rfl) h2)
  have kw : ∀ q, vA.ownBlock = some q → W'.heap[q]? = W.heap[q]? := fun q hq => hf q (H.all.lt q hq).2 (fun e => by
    obtain ⟨c1, h1⟩ := own_blk H.all hq
    obtain ⟨c2, h2⟩ := own_blk H.ways e.symm
    exact absurd (Blk.ty h1 h2) (by decide))
  exact {
    bel := hb
    lit := H.lit.kept (hk _ H.lit.lt (H.lit.notR (by decide) (by decide)))
    tr := ⟨H.tr.1.but hk, H.tr.2⟩
    all := own_keepT H.all kw
    ways := ho
    node := fun x M h1 => ⟨(H.node x M h1).1.keepP fun g hg => hk g ((H.node x M h1).1.foot_lt g hg) ((H.node x M h1).1.foot_notR g hg), (H.node x M h1).2⟩
    way := fun x v h1 => own_keepT (H.way x v h1) fun g hg => hk g ((H.way x v h1).lt g hg).2 (own_notR (H.way x v h1) hg (by decide) (by decide)) }
/-- some cells from a place on are written -/
def setQ : List Value → Nat → List Value → List Value
  | xs, _, [] => xs
  | xs, o, v :: r => setQ (xs.set o v) (o + 1) r
theorem setQ_get : ∀ (r : List Value) (xs : List Value) (o j : Nat), o + r.length ≤ xs.length → (setQ xs o r)[j]? = if o ≤ j ∧ j < o + r.length then r[j - o]? else xs[j]?
  | [], xs, o, j, _ => by rw [setQ, if_neg (by simp only [List.length_nil]; omega)]
  | v :: r, xs, o, j, h => by
    rw [List.length_cons] at h
    rw [setQ, setQ_get r _ _ _ (by rw [List.length_set]; omega), List.length_cons]
    by_cases h1 : o + 1 ≤ j ∧ j < o + 1 + r.length
    · rw [if_pos h1, if_pos (by omega), show j - o = (j - (o + 1)) + 1 from by omega, List.getElem?_cons_succ]
    · rw [if_neg h1]
      by_cases h2 : o = j
      · subst h2
        rw [if_pos (by omega), Nat.sub_self, List.getElem?_set_self (by omega)]
        rfl
      · rw [if_neg (by omega), List.getElem?_set_ne h2]
theorem setQ_flat {α : Type} (f : α → List Value) (q : Nat) (hf : ∀ x, (f x).length = q) (l : List α) (i : Nat) (x : α) (hi : i < l.length) : setQ (l.flatMap f) (i * q) (f x) = (l.set i x).flatMap f := by
  have hle : i * q + q ≤ l.length * q := by
    have := Nat.mul_le_mul_right q (show i + 1 ≤ l.length from hi)
    rw [Nat.add_mul, Nat.one_mul] at this
    exact this
  refine List.ext_getElem? fun j => ?_
  rw [setQ_get _ _ _ _ (by rw [flat_len f q hf, hf]; exact hle), hf]
  by_cases hq : q = 0
  · have h1 : (l.flatMap f).length = 0 := by rw [flat_len f q hf, hq, Nat.mul_zero]
    have h2 : ((l.set i x).flatMap f).length = 0 := by rw [flat_len f q hf, hq, Nat.mul_zero]
    rw [if_neg (by omega), List.length_eq_zero_iff.1 h1, List.length_eq_zero_iff.1 h2]
  have hdm := Nat.div_add_mod j q
  rw [Nat.mul_comm] at hdm
  have hm := Nat.mod_lt j (Nat.pos_of_ne_zero hq)
  by_cases hlt : j / q < l.length
  · have hne : ∀ {m : List α} {y : α}, m[j / q]? = some y → (m.flatMap f)[j]? = (f y)[j % q]? := fun hy => by
      have h9 := flat_get f q hf hy _ hm
      rw [hdm] at h9
      exact h9
    by_cases he : j / q = i
    · rw [if_pos (by rw [← he]; omega), hne (m := l.set i x) (y := x) (by rw [he]; exact List.getElem?_set_self hi)]
      congr 1
      rw [← he]
      omega
    · have hout : ¬ (i * q ≤ j ∧ j < i * q + q) := by
        rintro ⟨a, b⟩
        refine he ?_
        have h1 : i ≤ j / q := (Nat.le_div_iff_mul_le (Nat.pos_of_ne_zero hq)).2 a
        have h2 : j / q < i + 1 := (Nat.div_lt_iff_lt_mul (Nat.pos_of_ne_zero hq)).2 (by rw [Nat.add_mul, Nat.one_mul]; exact b)
        omega
      obtain ⟨y, hy⟩ := at_lt hlt
      rw [if_neg hout, hne hy, hne (m := l.set i x) (y := y) (by rw [List.getElem?_set_ne (fun e => he e.symm)]; exact hy)]
  · have hge : l.length * q ≤ j := by
      have := (Nat.le_div_iff_mul_le (Nat.pos_of_ne_zero hq)).1 (Nat.le_of_not_lt hlt)
      exact this
    rw [if_neg (by omega), List.getElem?_eq_none (by rw [flat_len f q hf]; exact hge), List.getElem?_eq_none (by rw [flat_len f q hf, List.length_set]; exact hge)]
theorem gb_setCells {g : Nat} : ∀ (r : List Value) (o : Nat) (W' : World), W.grownBy W' (some g) → W.grownBy (W'.setCells g o r) (some g)
  | [], _, _, h => h
  | v :: r, o, W', h => gb_setCells r (o + 1) _ (gb_setCell h o v)
theorem Rw.setCells {g t sz n k : Nat} : ∀ (r : List Value) (o : Nat) (W : World) (xs : List Value), Rw W g t sz n k xs → Rw (W.setCells g o r) g t sz n k (setQ xs o r)
  | [], _, _, _, h => h
  | v :: r, o, W, xs, h => Rw.setCells r (o + 1) _ _ (h.set_ o v)
/-- a state is done: zeroed -/
theorem RfI.done {g n k : Nat} (H : RfI l w W gt T vK vL vR ths PN PW sts wys (.slice (some ⟨g, 0, none⟩) n k) vW) (hn : sts.length = n) (hi : i < n) :
    RfI l w (W.setCells g (i * 7) (stC l.tn l.wn none)) gt T vK vL vR ths PN PW (sts.set i none) wys (.slice (some ⟨g, 0, none⟩) n k) vW := by
  subst hn
  obtain ⟨hB, hr⟩ : w.heap.size ≤ g ∧ Rw W g 116 7 sts.length k (sts.flatMap (stC l.tn l.wn)) := by
    obtain ⟨_, e, hB, hr⟩ := Rw.of_own H.all (by omega)
    injection e with e
    injection e with e _
    subst e
    exact ⟨hB, hr⟩
  have hg : W.grownBy (W.setCells g (i * 7) (stC l.tn l.wn none)) (some g) := gb_setCells (stC l.tn l.wn none) (i * 7) W (World.grownBy.refl W (some g))
  have h9 := Rw.setCells (stC l.tn l.wn none) (i * 7) W _ hr
  rw [setQ_flat (stC l.tn l.wn) 7 (stC_len l.tn l.wn) sts i none hi] at h9
  generalize W.setCells g (i * 7) (stC l.tn l.wn none) = W' at hg h9 ⊢
  refine H.allG (H.bel.grown hg H.bel.size (fun q hq => by injection hq with hq; omega)) (fun q h1 h2 => hg.block q h1 h2) ?_
  rw [List.length_set]
  exact h9.own hB
theorem RfI.there {g n k : Nat} (H : RfI l w W gt T vK vL vR ths PN PW sts wys (.slice (some ⟨g, 0, none⟩) n k) vW) (hn : sts.length = n) (hi : i < n) : W.there g (i * 7) 7 := by
  subst hn
  obtain ⟨hB, hr⟩ : w.heap.size ≤ g ∧ Rw W g 116 7 sts.length k (sts.flatMap (stC l.tn l.wn)) := by
    obtain ⟨_, e, hB, hr⟩ := Rw.of_own H.all (by omega)
    injection e with e
    injection e with e _
    subst e
    exact ⟨hB, hr⟩
  intro j hj
  obtain ⟨o, ho⟩ := at_lt hi
  have h9 := stC_at (n := l.tn) (nw := l.wn) ho hj
  obtain ⟨v, hv⟩ := at_lt (show j < (stC l.tn l.wn o).length by rw [stC_len]; exact hj)
  rw [hr.cell (h9.trans hv)]
  exact ⟨rfl, hr.frozen _⟩
theorem RfQ.done (H : RfQ l T ns PN PW sts wys i) : RfQ l T ns PN PW (sts.set i none) wys (i + 1) where
  tk := H.tk
  sl := by rw [List.length_set]; exact H.sl
  yl := H.yl
  nd := fun j x hj hx => by
    obtain ⟨M, h1, h2⟩ := H.nd j x (by omega) hx
    exact ⟨M, by rw [List.getElem?_set_ne (by omega)]; exact h1, h2⟩
  wy := H.wy
  ok := H.ok
theorem RfQ.snoc {T' : Tr} {y : Nd} {M2 : RM} {vy : Value} (H : RfQ l T ns PN PW sts wys i) (ht : T'.ks = T.ks ++ [keyN l y]) (ho : OkNs l (ns ++ [y])) :
    RfQ l T' (ns ++ [y]) (fun x M => PN x M ∨ (x = y ∧ M = M2)) (fun x v => PW x v ∨ (x = y ∧ v = vy)) (sts ++ [some M2]) (wys ++ [vy]) i where
  tk := by rw [ht, H.tk]; simp
  sl := by simp [H.sl]
  yl := by simp [H.yl]
  nd := fun j x hj hx => by
    by_cases hlt : j < ns.length
    · rw [List.getElem?_append_left hlt] at hx
      obtain ⟨M, h1, h2⟩ := H.nd j x hj hx
      exact ⟨M, by rw [List.getElem?_append_left (by rw [H.sl]; exact hlt)]; exact h1, Or.inl h2⟩
    · have hj2 := (List.getElem?_eq_some_iff.1 hx).1
      rw [List.length_append, List.length_singleton] at hj2
      obtain rfl : j = ns.length := by omega
      simp at hx
      subst hx
      exact ⟨M2, by rw [← H.sl]; simp, Or.inr ⟨rfl, rfl⟩⟩
  wy := fun j x hx => by
    by_cases hlt : j < ns.length
    · rw [List.getElem?_append_left hlt] at hx
      obtain ⟨v, h1, h2⟩ := H.wy j x hx
      exact ⟨v, by rw [List.getElem?_append_left (by rw [H.yl]; exact hlt)]; exact h1, Or.inl h2⟩
    · have hj2 := (List.getElem?_eq_some_iff.1 hx).1
      rw [List.length_append, List.length_singleton] at hj2
      obtain rfl : j = ns.length := by omega
      simp at hx
      subst hx
      exact ⟨vy, by rw [← H.yl]; simp, Or.inr ⟨rfl, rfl⟩⟩
  ok := ho
end
end Go.Proofs.Ytgbopmgeicokoaa
namespace Go.Proofs.Ytgbopmgeicokoaa
open Go.RowKit
set_option linter.unusedSimpArgs false
set_option linter.unusedVariables false

/-- what Free tells -/
def RfrP (a : Ans) (w : World) (e : Ending) (w' : World) : Prop := match a with
  | .free => e = .returned (.tuple #[.bool true, .slice none 0 0, .bool false]) ∧ Below w.heap.size w w'
  | .race wy => ∃ A k, e = .returned (.tuple #[.bool false, .slice A wy.length k, .bool false]) ∧ w'.ownsRow w.heap.size 131 3 (.slice A wy.length k) wy.length (tnVals (wy.map tnW)) ∧ Below w.heap.size w w'
  | .many => e = .returned (.tuple #[.bool false, .slice none 0 0, .bool true]) ∧ Below w.heap.size w w'
theorem put_seen {T : Tr} {k : List Int} (h : TrW T) (hc : T.ks.contains k = true) : (putT T k).2.2 = false ∧ (putT T k).1 = T := by
  have hn : T.ks.length ≠ 0 := by
    intro h0
    rw [List.length_eq_zero_iff.1 h0] at hc
    simp at hc
  unfold putT
  rw [if_neg hn]
  cases hs : srch T k T.ks.length 0 with
  | hit i => exact ⟨rfl, rfl⟩
  | miss a r =>
    have h9 := (srch_contains (k := k) h (by omega)).2 a r hs
    rw [hc] at h9
    cases h9
theorem put_new {T : Tr} {k : List Int} (h : TrW T) (hc : T.ks.contains k = false) : (putT T k).2.2 = true ∧ (putT T k).1.ks = T.ks ++ [k] := by
  unfold putT
  by_cases hn : T.ks.length = 0
  · rw [if_pos hn, List.length_eq_zero_iff.1 hn]
    exact ⟨rfl, rfl⟩
  · rw [if_neg hn]
    cases hs : srch T k T.ks.length 0 with
    | hit i =>
      have h9 := (srch_contains (k := k) h (by omega)).1 i hs
      rw [hc] at h9
      cases h9
    | miss a r => exact ⟨rfl, rfl⟩
theorem flatK_pos {n nw : Nat} {S : LS} {es : List Ev} (hn : 0 < n) : 0 < (flatK n nw S es).length := by
  obtain ⟨m, rfl⟩ : ∃ m, n = m + 1 := ⟨n - 1, by omega⟩
  unfold flatK flat19
  simp only [List.length_append, List.range_succ_eq_map, List.flatMap_cons, List.length_cons]
  omega
theorem info_st27 : (Try.prog.info? 116).map (fun i => (i.zero, i.size, i.bytes)) = some (some (.agg #[.slice none 0 0, .slice none 0 0, .slice none 0 0, .slice none 0 0, .slice none 0 0, .slice none 0 0, .slice none 0 0]), 7, 168) := by kernel_rfl
theorem info_wys : (Try.prog.info? 102).map (fun i => (i.zero, i.size, i.bytes)) = some (some (.slice none 0 0), 1, 24) := by kernel_rfl
theorem esN_len (l : Lit) (S : LS) (u : Tn) (es : List Ev) : (esN l S u es).length ≤ es.length + 1 := by
  unfold esN
  rw [List.length_append]
  cases evOf l S u <;> simp
theorem st7_cells (A1 A2 A3 A4 A5 A6 A7 : Option Addr) (n1 n2 n3 n4 n5 n6 n7 k1 k2 k3 k4 k5 k6 k7 : Nat) : ∀ u ∈ [Value.slice A1 n1 k1, .slice A2 n2 k2, .slice A3 n3 k3, .slice A4 n4 k4, .slice A5 n5 k5, .slice A6 n6 k6, .slice A7 n7 k7], u.oneCell' = true := by simp [Value.oneCell']
theorem race_yes {x : Nd} (h : raceN x = true) : 0 < (rcsE x.es x.es.length).length := by
  unfold raceN at h
  cases hr : rcsE x.es x.es.length with
  | nil => rw [hr] at h; cases h
  | cons a l => simp
theorem race_no {x : Nd} (h : raceN x = false) : (rcsE x.es x.es.length).length = 0 := by
  unfold raceN at h
  cases hr : rcsE x.es x.es.length with
  | nil => rfl
  | cons a l => rw [hr] at h; cases h
theorem flatK_len {l : Lit} {x : Nd} (hg : OkN l x) (hn : l.tn ≤ 4) (hw : l.wn ≤ 6) : (keyN l x).length ≤ maxLen := by
  have h1 : ∀ (n : Nat) (f : Nat → List Int) (c : Nat), (∀ i, (f i).length = c) → ((List.range n).flatMap f).length = n * c := by
    intro n f c hf
    induction n with
    | zero => simp
    | succ n ih => rw [List.range_succ, List.flatMap_append, List.length_append, ih]; simp [hf, Nat.add_mul]
  unfold keyN flatK flat19 lastK
  simp only [List.length_append, List.length_map, List.length_range]
  rw [h1 l.tn (fun t => [x.S.r t 0, x.S.r t 1, x.S.r t 2, x.S.r t 3, (x.S.p t : Int), 0]) 6 (fun i => rfl), h1 l.tn _ l.tn (fun i => by simp [clkL]), h1 l.wn _ l.tn (fun i => by simp [clkL]), hg.good.w]
  have a1 : l.tn * l.tn ≤ 4 * 4 := Nat.mul_le_mul hn hn
  have a2 : l.wn * l.tn ≤ 6 * 4 := Nat.mul_le_mul hw hn
  simp only [maxLen]
  omega

set_option maxRecDepth 100000 in
set_option maxHeartbeats 32000000 in
theorem rfree_any (l : Lit) (w : World) (h : LitAt w w.heap.size l) (hok : okLit l = true) :
    Calls Try.prog 50 #[litV l] w (RfrP (freeN l) w) := by
  obtain ⟨n1, n2, n3, n4⟩ := okLit_num hok
  have HRoot := Lib.hid (OkNs.root (l := l) h.wlen)
  have HB0 : Hid (Blk (w.alloc (.cells #[.slice l.wA l.wn l.wk, .slice l.tA l.tn l.tk] 101)) w.heap.size 101 (litL l)) := Lib.hid (Blk.new _ _ _)
  have HW0 : Hid (Below w.heap.size w (w.alloc (.cells #[.slice l.wA l.wn l.wk, .slice l.tA l.tn l.tk] 101))) := Lib.hid ((Below.refl _ _).alloc (Nat.le_refl _) _)
  have HL := Lib.hid h
  have HOk := Lib.hid hok
  clear h hok
  obtain ⟨ist, hist, histz, hists, histb⟩ := info_parts info_st27
  obtain ⟨iwy, hiwy, hiwyz, hiwys, hiwyb⟩ := info_parts info_wys
  obtain ⟨itn, hitn, hitnz, hitns, hitnb⟩ := info_parts info_tnW
  go_enter Try.func50, Try.ntmps50
  go_upto_region 1 with fail
  generalize w.alloc (.cells #[.slice l.wA l.wn l.wk, .slice l.tA l.tn l.tk] 101) = w0 at HB0 HW0 ⊢
  have hz0 := HB0.out.lt
  go_upto_region 2 with fail
  obtain ⟨gt, hgt⟩ : ∃ gt, gt = w0.heap.size := ⟨_, rfl⟩
  obtain ⟨w1, hw1, HT1, HX1⟩ : ∃ Z9, Z9 = w0.alloc (.cells #[.slice none 0 0, .slice none 0 0, .slice none 0 0] 221) ∧ Hid (Blk Z9 gt 221 [.slice none 0 0, .slice none 0 0, .slice none 0 0]) ∧ Hid (Below w0.heap.size w0 Z9) := ⟨_, rfl, Lib.hid (by rw [hgt]; exact Blk.new _ _ _), Lib.hid ((Below.refl _ _).alloc (Nat.le_refl _) _)⟩
  rw [← hw1, ← hgt]
  have hgtB : w.heap.size ≤ gt := by omega
  clear hw1 hgt
  have hL1 := HB0.out.below HX1.out HB0.out.lt
  have q0 : w1.cell? ⟨w.heap.size, 0, none⟩ = some (.slice l.wA l.wn l.wk) := hL1.cell rfl
  have q1 : w1.cell? ⟨w.heap.size, 1, none⟩ = some (.slice l.tA l.tn l.tk) := hL1.cell rfl
  have HLb1 := Lib.hid hL1
  have HX01 := Lib.hid (HW0.out.trans (HX1.out.mono HW0.out.size))
  clear hL1
  go_wp2_with fail
  refine (rb27_any l w1 ((HL.out.keep HX01.out).up HX01.out.size) HOk.out).mono ?_
  rintro e w2 ⟨M, rfl, hr2, hb2⟩
  obtain ⟨vA, vk, hvE, hvk1, hvk2⟩ := own_form hr2.ev
  rw [List.length_nil] at hvE hvk1
  have HvE : Hid (M.vE = .slice vA 0 vk) := Lib.hid hvE
  have HR2 := Lib.hid hr2
  have HX2 := Lib.hid hb2
  unfold rsV
  rw [hvE]
  clear hvE hr2 hb2 q0 q1
  go_upto_region 4 with fail
  obtain ⟨g6, hg6⟩ : ∃ g6, g6 = w2.heap.size := ⟨_, rfl⟩
  obtain ⟨g7, hg7⟩ : ∃ g7, g7 = w2.heap.size + 1 := ⟨_, rfl⟩
  obtain ⟨w4, hw4, HI, HB4, HG4⟩ : ∃ Z9, Z9 = (w2.alloc (.cells #[.slice (some ⟨M.h.gw, 0, none⟩) l.wn M.h.kw, .slice (some ⟨M.h.gr, 0, none⟩) l.tn M.h.kr, .slice (some ⟨M.h.gp, 0, none⟩) l.tn M.h.kp, .slice (some ⟨M.h.gb, 0, none⟩) l.tn M.h.kb, .slice (some ⟨M.gm, 0, none⟩) l.tn M.km, .slice (some ⟨M.gd, 0, none⟩) l.wn M.kd, .slice vA 0 vk] 116)).alloc (.cells #[.slice none 0 0] 102) ∧ Hid (RfI l w Z9 gt Tr.nil (.slice none 0 0) (.slice none 0 0) (.slice none 0 0) [] (fun x M' => x = rootN l ∧ M' = M) (fun x v => x = rootN l ∧ v = .slice none 0 0) [some M] [.slice none 0 0] (.slice (some ⟨g6, 0, none⟩) 1 1) (.slice (some ⟨g7, 0, none⟩) 1 1)) ∧ Hid (Below w1.heap.size w1 Z9) ∧ Hid (Blk Z9 g6 116 [.slice (some ⟨M.h.gw, 0, none⟩) l.wn M.h.kw, .slice (some ⟨M.h.gr, 0, none⟩) l.tn M.h.kr, .slice (some ⟨M.h.gp, 0, none⟩) l.tn M.h.kp, .slice (some ⟨M.h.gb, 0, none⟩) l.tn M.h.kb, .slice (some ⟨M.gm, 0, none⟩) l.tn M.km, .slice (some ⟨M.gd, 0, none⟩) l.wn M.kd, .slice vA 0 vk]) := by
    have hA : Below w2.heap.size w2 ((w2.alloc (.cells #[.slice (some ⟨M.h.gw, 0, none⟩) l.wn M.h.kw, .slice (some ⟨M.h.gr, 0, none⟩) l.tn M.h.kr, .slice (some ⟨M.h.gp, 0, none⟩) l.tn M.h.kp, .slice (some ⟨M.h.gb, 0, none⟩) l.tn M.h.kb, .slice (some ⟨M.gm, 0, none⟩) l.tn M.km, .slice (some ⟨M.gd, 0, none⟩) l.wn M.kd, .slice vA 0 vk] 116)).alloc (.cells #[.slice none 0 0] 102)) := ((Below.refl _ _).alloc (Nat.le_refl _) _).alloc (by simp) _
    have hB : Below w1.heap.size w1 ((w2.alloc (.cells #[.slice (some ⟨M.h.gw, 0, none⟩) l.wn M.h.kw, .slice (some ⟨M.h.gr, 0, none⟩) l.tn M.h.kr, .slice (some ⟨M.h.gp, 0, none⟩) l.tn M.h.kp, .slice (some ⟨M.h.gb, 0, none⟩) l.tn M.h.kb, .slice (some ⟨M.gm, 0, none⟩) l.tn M.km, .slice (some ⟨M.gd, 0, none⟩) l.wn M.kd, .slice vA 0 vk] 116)).alloc (.cells #[.slice none 0 0] 102)) := HX2.out.trans (hA.mono HX2.out.size)
    have hz1 := HX01.out.size
    have hz2 := HX2.out.size
    have hgl := HT1.out.lt
    have hS : [.slice (some ⟨M.h.gw, 0, none⟩) l.wn M.h.kw, .slice (some ⟨M.h.gr, 0, none⟩) l.tn M.h.kr, .slice (some ⟨M.h.gp, 0, none⟩) l.tn M.h.kp, .slice (some ⟨M.h.gb, 0, none⟩) l.tn M.h.kb, .slice (some ⟨M.gm, 0, none⟩) l.tn M.km, .slice (some ⟨M.gd, 0, none⟩) l.wn M.kd, .slice vA 0 vk] = [some M].flatMap (stC l.tn l.wn) := by
      rw [List.flatMap_cons, List.flatMap_nil, List.append_nil, stC_some HvE.out]
      rfl
    refine ⟨_, rfl, Lib.hid ?_, Lib.hid hB, Lib.hid ?_⟩
    · exact {
        bel := HX01.out.trans (hB.mono HX01.out.size)
        lit := HLb1.out.below hB HLb1.out.lt
        tr := ⟨{
          blk := HT1.out.below hB HT1.out.lt
          gtB := hgtB
          kK := World.ownsRow_nil _ _ _ _
          kL := World.ownsRow_nil _ _ _ _
          kR := World.ownsRow_nil _ _ _ _
          hl := rfl
          rows := fun i k p e1 => by simp [Tr.nil] at e1
          ap := Or.inl rfl }, TrW.nil⟩
        all := by
          rw [← hS, hg6]
          have h9 := own_new (W := w2) (B := w.heap.size) (n := 1) (sz := 7) (t := 116) (cs := [.slice (some ⟨M.h.gw, 0, none⟩) l.wn M.h.kw, .slice (some ⟨M.h.gr, 0, none⟩) l.tn M.h.kr, .slice (some ⟨M.h.gp, 0, none⟩) l.tn M.h.kp, .slice (some ⟨M.h.gb, 0, none⟩) l.tn M.h.kb, .slice (some ⟨M.gm, 0, none⟩) l.tn M.km, .slice (some ⟨M.gd, 0, none⟩) l.wn M.kd, .slice vA 0 vk]) rfl (by omega) (by simp [maxLen])
          exact h9.alloc _
        ways := by
          have h9 := own_new (W := w2.alloc (.cells #[.slice (some ⟨M.h.gw, 0, none⟩) l.wn M.h.kw, .slice (some ⟨M.h.gr, 0, none⟩) l.tn M.h.kr, .slice (some ⟨M.h.gp, 0, none⟩) l.tn M.h.kp, .slice (some ⟨M.h.gb, 0, none⟩) l.tn M.h.kb, .slice (some ⟨M.gm, 0, none⟩) l.tn M.km, .slice (some ⟨M.gd, 0, none⟩) l.wn M.kd, .slice vA 0 vk] 116)) (B := w.heap.size) (n := 1) (sz := 1) (t := 102) (cs := [.slice none 0 0]) rfl (by rw [World.size_alloc]; omega) (by simp [maxLen])
          rw [World.size_alloc, ← hg7] at h9
          exact h9
        node := fun x M' h9 => by
          obtain ⟨rfl, rfl⟩ := h9
          refine ⟨(HR2.out.on hA).low hz1, fun g hg => ?_⟩
          rintro (e | e | e | e)
          · have h8 := HR2.out.foot_new g hg
            omega
          · cases e
          · cases e
          · cases e
        way := fun x v h9 => by
          obtain ⟨rfl, rfl⟩ := h9
          exact World.ownsRow_nil _ _ _ _ }
    · rw [hg6]
      exact (Blk.new w2 116 [.slice (some ⟨M.h.gw, 0, none⟩) l.wn M.h.kw, .slice (some ⟨M.h.gr, 0, none⟩) l.tn M.h.kr, .slice (some ⟨M.h.gp, 0, none⟩) l.tn M.h.kp, .slice (some ⟨M.h.gb, 0, none⟩) l.tn M.h.kb, .slice (some ⟨M.gm, 0, none⟩) l.tn M.km, .slice (some ⟨M.gd, 0, none⟩) l.wn M.kd, .slice vA 0 vk]).alloc _
  rw [← hw4, ← hg7, ← hg6]
  clear hw4 hg6 hg7 HT1 HX1 HR2
  have HQ : Hid (∀ T', T'.ks = [keyN l (rootN l)] → RfQ l T' [rootN l] (fun x M' => x = rootN l ∧ M' = M) (fun x v => x = rootN l ∧ v = .slice none 0 0) [some M] [.slice none 0 0] 0) := Lib.hid fun T' hT' => {
    tk := hT'
    sl := rfl
    yl := rfl
    nd := fun j x _ hx => by
      cases j with
      | zero => simp at hx; subst hx; exact ⟨M, rfl, rfl, rfl⟩
      | succ j => simp at hx
    wy := fun j x hx => by
      cases j with
      | zero => simp at hx; subst hx; exact ⟨_, rfl, rfl, rfl⟩
      | succ j => simp at hx
    ok := HRoot.out }
  have HSo : Hid (∀ W T vK vL vR ths, RfI l w W gt T vK vL vR ths (fun x M' => x = rootN l ∧ M' = M) (fun x v => x = rootN l ∧ v = .slice none 0 0) [some M] [.slice none 0 0] (.slice (some ⟨g6, 0, none⟩) 1 1) (.slice (some ⟨g7, 0, none⟩) 1 1) → W.cell? ⟨w.heap.size, 0, none⟩ = some (.slice l.wA l.wn l.wk) ∧ W.cell? ⟨w.heap.size, 1, none⟩ = some (.slice l.tA l.tn l.tk) ∧ W.cell? ⟨g6, 0, none⟩ = some (.slice (some ⟨M.h.gw, 0, none⟩) l.wn M.h.kw) ∧ W.cell? ⟨g6, 1, none⟩ = some (.slice (some ⟨M.h.gr, 0, none⟩) l.tn M.h.kr) ∧ W.cell? ⟨g6, 2, none⟩ = some (.slice (some ⟨M.h.gp, 0, none⟩) l.tn M.h.kp) ∧ W.cell? ⟨g6, 3, none⟩ = some (.slice (some ⟨M.h.gb, 0, none⟩) l.tn M.h.kb) ∧ W.cell? ⟨g6, 4, none⟩ = some (.slice (some ⟨M.gm, 0, none⟩) l.tn M.km) ∧ W.cell? ⟨g6, 5, none⟩ = some (.slice (some ⟨M.gd, 0, none⟩) l.wn M.kd) ∧ W.cell? ⟨g6, 6, none⟩ = some (.slice vA 0 vk)) := Lib.hid fun W T vK vL vR ths H => by
    obtain ⟨_, e9, _, hr9⟩ := Rw.of_own H.all (by simp)
    injection e9 with e9
    injection e9 with e9 _
    subst e9
    have hc : ∀ j v, j < 7 → (stC l.tn l.wn (some M))[j]? = some v → W.cell? ⟨g6, j, none⟩ = some v := fun j v hj hv => hr9.cell (by have h8 := stC_at (n := l.tn) (nw := l.wn) (l := [some M]) (j := 0) rfl hj; rw [Nat.zero_mul, Nat.zero_add] at h8; exact h8.trans hv)
    exact ⟨H.lit.cell rfl, H.lit.cell rfl, hc 0 _ (by omega) rfl, hc 1 _ (by omega) rfl, hc 2 _ (by omega) rfl, hc 3 _ (by omega) rfl, hc 4 _ (by omega) rfl, hc 5 _ (by omega) rfl, hc 6 _ (by omega) (by rw [stC_some HvE.out]; rfl)⟩
  have HFl : Hid (∀ W, Below w4.heap.size w4 W → Calls Try.prog 100 #[litV l, .agg #[.slice (some ⟨M.h.gw, 0, none⟩) l.wn M.h.kw, .slice (some ⟨M.h.gr, 0, none⟩) l.tn M.h.kr, .slice (some ⟨M.h.gp, 0, none⟩) l.tn M.h.kp, .slice (some ⟨M.h.gb, 0, none⟩) l.tn M.h.kb, .slice (some ⟨M.gm, 0, none⟩) l.tn M.km, .slice (some ⟨M.gd, 0, none⟩) l.wn M.kd, .slice vA 0 vk]] W (FltR (keyN l (rootN l)) W)) := Lib.hid fun W hW => by
    have h9 := flat_any l W w.heap.size (firstS l) [] M ((HL.out.keep (HI.out.bel.trans (hW.mono HI.out.bel.size))).up (HI.out.bel.trans (hW.mono HI.out.bel.size)).size) ((HI.out.on hW).node (rootN l) M ⟨rfl, rfl⟩).1 HOk.out (by simp) (fun e he => by cases he)
    unfold rsV at h9
    rw [HvE.out] at h9
    exact h9
  have HPt : Hid (∀ W g c, Below w4.heap.size w4 W → Rw W g 3 1 (keyN l (rootN l)).length c (ints (keyN l (rootN l))) → Calls Try.prog 99 #[.pointer (some ⟨gt, 0, none⟩), .slice (some ⟨g, 0, none⟩) (keyN l (rootN l)).length c] W (PutR Tr.nil (keyN l (rootN l)) w.heap.size gt g c (.slice none 0 0) (.slice none 0 0) (.slice none 0 0) [] W)) := Lib.hid fun W g c hW hg =>
    put_any Tr.nil (keyN l (rootN l)) w.heap.size gt g c _ _ _ [] W (HI.out.on hW).tr hg (by simp [Value.ownBlock]) (by simp [Value.ownBlock]) (by simp [Tr.nil]) (HI.out.on hW).bel.size (fun q hq => by simp [Tr.nil] at hq)
  have HKp : Hid (0 < (keyN l (rootN l)).length) := Lib.hid (flatK_pos n1)
  go_region_held3 (fun W => W.cell? ⟨w.heap.size, 0, none⟩ = some (.slice l.wA l.wn l.wk) ∧ W.cell? ⟨w.heap.size, 1, none⟩ = some (.slice l.tA l.tn l.tk) ∧ W.cell? ⟨g6, 0, none⟩ = some (.slice (some ⟨M.h.gw, 0, none⟩) l.wn M.h.kw) ∧ W.cell? ⟨g6, 1, none⟩ = some (.slice (some ⟨M.h.gr, 0, none⟩) l.tn M.h.kr) ∧ W.cell? ⟨g6, 2, none⟩ = some (.slice (some ⟨M.h.gp, 0, none⟩) l.tn M.h.kp) ∧ W.cell? ⟨g6, 3, none⟩ = some (.slice (some ⟨M.h.gb, 0, none⟩) l.tn M.h.kb) ∧ W.cell? ⟨g6, 4, none⟩ = some (.slice (some ⟨M.gm, 0, none⟩) l.tn M.km) ∧ W.cell? ⟨g6, 5, none⟩ = some (.slice (some ⟨M.gd, 0, none⟩) l.wn M.kd) ∧ W.cell? ⟨g6, 6, none⟩ = some (.slice vA 0 vk)) (first | exact HSo.out _ _ _ _ _ _ hi2 | exact HSo.out _ _ _ _ _ _ hi1 | exact HSo.out _ _ _ _ _ _ (HI.out.on (Below.refl _ _).drew)) (first | (go_at_call 100; refine (HFl.out _ (Below.refl _ _).drew).mono ?_; rintro e y1 ⟨A1, k1, rfl, ho1, hb1⟩; obtain ⟨g1, rfl, hg1, hrw1⟩ := Rw.of_own ho1 HKp.out; have hby : Below w4.heap.size w4 y1 := (Below.refl _ _).drew.trans hb1; have hi1 := HI.out.on hby) | (go_at_call 99; refine (HPt.out _ g1 k1 hby hrw1).mono ?_; rintro e y2 ⟨vK2, vL2, vR2, rfl, ht2, hf2, hq2⟩; have hi2 := (HI.out.on hby).put ht2 hf2 hq2))
  have HI5 := Lib.hid hi2
  have HQ5 := Lib.hid (HQ.out (putT Tr.nil (keyN l (rootN l))).1 rfl)
  clear hi2 hi1 hby hb1 ho1 hg1 hrw1 ht2 hf2 hq2 HQ HSo HFl HPt HKp HI HB4 HG4 HX2 HX01 HLb1 HB0 HW0 HvE hvk1 hvk2
  go_wp2_with fail
  go_loopg [6, 7, 8] 30001 (fun gk s6 s7 s8 wr => ∃ (i : Nat) (ns : List Nd) (T : Tr) (vK vL vR : Value) (ths : List (Nat × Nat)) (PN : Nd → RM → Prop) (PW : Nd → Value → Prop) (sts : List (Option RM)) (wys : List Value) (v6 v7 : Value), s6 = v6 ∧ s7 = v7 ∧ s8 = .int .i64 i ∧ gk + i = 30001 ∧ i ≤ ns.length ∧ 0 < ns.length ∧ ns.length ≤ 30000 ∧ Hid (freeN l = bfs l gk ns i) ∧ Hid (RfQ l T ns PN PW sts wys i) ∧ Hid (RfI l w wr gt T vK vL vR ths PN PW sts wys v6 v7))
  case atStart => exact ⟨0, [rootN l], _, _, _, _, _, _, _, _, _, _, _, rfl, rfl, rfl, rfl, Nat.zero_le _, by simp, by simp, Lib.hid rfl, HQ5, HI5⟩
  case round =>
    clear HI5 HQ5
    obtain ⟨i, ns, T, vK, vL, vR, ths, PN, PW, sts, wys, v6, v7, hv6, hv7, rfl, hgk, hin, hn0, hnm, HF, HQ, HI⟩ := hrel
    subst hv6 hv7
    obtain ⟨A6, k6, hv6, hk61, hk62⟩ := own_form HI.out.all
    obtain ⟨A7, k7, hv7, hk71, hk72⟩ := own_form HI.out.ways
    rw [HQ.out.sl] at hv6 hk61
    rw [HQ.out.yl] at hv7 hk71
    subst hv6 hv7
    by_cases hlt : i < ns.length
    · have e1 : (i : Int) < ns.length := by omega
      have e0 : (0 : Int) ≤ i := by omega
      obtain ⟨x, hx⟩ := at_lt hlt
      have HX := Lib.hid hx
      clear hx
      go_wp2_with fail
      clear e1
      obtain ⟨ga, rfl⟩ : ∃ ga : Nat, ga = gk := ⟨_, rfl⟩
      obtain ⟨wo, rfl⟩ : ∃ wo : World, wo = wr := ⟨_, rfl⟩
      obtain ⟨ns0, rfl⟩ : ∃ ns0 : List Nd, ns0 = ns := ⟨_, rfl⟩
      have HX0 := HX
      go_loopg [6, 7, 9] l.tn (fun gk s6 s7 s9 wr => ∃ (t : Nat) (ns : List Nd) (T : Tr) (vK vL vR : Value) (ths : List (Nat × Nat)) (PN : Nd → RM → Prop) (PW : Nd → Value → Prop) (sts : List (Option RM)) (wys : List Value) (v6 v7 : Value), s6 = v6 ∧ s7 = v7 ∧ s9 = .int .i64 t ∧ gk + t = l.tn ∧ i < ns.length ∧ ns.length ≤ 30000 ∧ Hid (ns[i]? = some x) ∧ Hid (brow l x l.tn ns0 0 = brow l x gk ns t) ∧ Hid (RfQ l T ns PN PW sts wys i) ∧ Hid (RfI l w wr gt T vK vL vR ths PN PW sts wys v6 v7))
      case atStart => exact ⟨0, _, _, _, _, _, _, _, _, _, _, _, _, rfl, rfl, rfl, rfl, hlt, hnm, HX, Lib.hid rfl, HQ, HI⟩
      case round =>
        clear HI HQ HX hlt hin hnm hn0 hk61 hk62 hk71 hk72
        obtain ⟨t, ns, T, vK, vL, vR, ths, PN, PW, sts, wys, v6, v7, hv6, hv7, rfl, hgt, hin, hnm, HX, HBr, HQ, HI⟩ := hrel
        subst hv6 hv7
        obtain ⟨A6, k6, hv6, hk61, hk62⟩ := own_form HI.out.all
        obtain ⟨A7, k7, hv7, hk71, hk72⟩ := own_form HI.out.ways
        rw [HQ.out.sl] at hv6 hk61
        rw [HQ.out.yl] at hv7 hk71
        subst hv6 hv7
        obtain ⟨g6, hg6, hg6B, _⟩ := Rw.of_own (by have h9 := HI.out.all; rw [HQ.out.sl] at h9; exact h9) (by omega)
        obtain ⟨g7, hg7, hg7B, _⟩ := Rw.of_own (by have h9 := HI.out.ways; rw [HQ.out.yl] at h9; exact h9) (by omega)
        subst hg6 hg7
        have f1 : (i : Int) < ns.length := by omega
        have q0 : wr.cell? ⟨w.heap.size, 0, none⟩ = some (.slice l.wA l.wn l.wk) := HI.out.lit.cell rfl
        have q1 : wr.cell? ⟨w.heap.size, 1, none⟩ = some (.slice l.tA l.tn l.tk) := HI.out.lit.cell rfl
        by_cases hlt : t < l.tn
        · have e1 : (t : Int) < l.tn := by omega
          have e2 : (0 : Int) ≤ t := by omega
          obtain ⟨M, hsM, hPN⟩ := HQ.out.nd i x (Nat.le_refl _) HX.out
          obtain ⟨vy, hvy, hPW⟩ := HQ.out.wy i x HX.out
          obtain ⟨hOkx, hwl⟩ := HQ.out.ok i x HX.out
          have hxlen : x.es.length ≤ 30000 := by have := hOkx.le; omega
          obtain ⟨hrM, hoff⟩ := HI.out.node x M hPN
          obtain ⟨vA, vk, hvE, hvk1, hvk2⟩ := own_form hrM.ev
          obtain ⟨Aw, kw, hvw, hkw1, hkw2⟩ := own_form (HI.out.way x vy hPW)
          subst hvw
          have HRM := Lib.hid hrM
          have HOff := Lib.hid hoff
          have HOx := Lib.hid hOkx
          have HWl := Lib.hid hwl
          have HXl := Lib.hid hxlen
          have HPW := Lib.hid hPW
          have hAll := HI.out.all
          have hWys := HI.out.ways
          rw [HQ.out.sl] at hAll
          rw [HQ.out.yl] at hWys
          obtain ⟨_, eA, _, hrA⟩ := Rw.of_own hAll (by omega)
          obtain ⟨_, eW, _, hrW⟩ := Rw.of_own hWys (by omega)
          injection eA with eA
          injection eA with eA _
          subst eA
          injection eW with eW
          injection eW with eW _
          subst eW
          have hcA : ∀ j v, j < 7 → (stC l.tn l.wn (some M))[j]? = some v → wr.cell? ⟨g6, i * 7 + j, none⟩ = some v := fun j v hj hv => hrA.cell ((stC_at hsM hj).trans hv)
          have c0 := hcA 0 _ (by omega) rfl
          have c1 := hcA 1 _ (by omega) rfl
          have c2 := hcA 2 _ (by omega) rfl
          have c3 := hcA 3 _ (by omega) rfl
          have c4 := hcA 4 _ (by omega) rfl
          have c5 := hcA 5 _ (by omega) rfl
          have c6 : wr.cell? ⟨g6, i * 7 + 6, none⟩ = some (.slice vA x.es.length vk) := hcA 6 _ (by omega) (by rw [stC_some hvE]; rfl)
          have cw : wr.cell? ⟨g7, i, none⟩ = some (.slice Aw x.way.length kw) := hrW.cell hvy
          have HCw := Lib.hid cw
          have Hg7l := Lib.hid hrW.lt
          rw [Nat.add_zero] at c0
          have HCp : Hid (∀ W, Below wr.heap.size wr W → Calls Try.prog 101 #[.agg #[.slice (some ⟨M.h.gw, 0, none⟩) l.wn M.h.kw, .slice (some ⟨M.h.gr, 0, none⟩) l.tn M.h.kr, .slice (some ⟨M.h.gp, 0, none⟩) l.tn M.h.kp, .slice (some ⟨M.h.gb, 0, none⟩) l.tn M.h.kb, .slice (some ⟨M.gm, 0, none⟩) l.tn M.km, .slice (some ⟨M.gd, 0, none⟩) l.wn M.kd, .slice vA x.es.length vk]] W (CpR27 l.tn l.wn x.S x.es M W)) := Lib.hid fun W hW => by
            have h9 := copy27_any l.tn l.wn W w.heap.size x.S x.es M (HRM.out.on hW) n1 n2 n3 n4 (by have := HXl.out; omega)
            unfold rsV at h9
            rw [hvE] at h9
            exact h9
          clear hcA hrA hrW hAll hWys hrM hoff hOkx hwl hxlen hPW hvE cw
          go_wp2_with fail
          refine (HCp.out wr (Below.refl _ _)).mono ?_
          rintro e w1 ⟨M1, rfl, hr1, hcs1, hZ1, hb1⟩
          have hx1 : Blk (w1.alloc (.cells #[.slice none 0 0, .slice none 0 0, .slice none 0 0, .slice none 0 0, .slice none 0 0, .slice none 0 0, .slice none 0 0] 116)) w1.heap.size 116 [.slice none 0 0, .slice none 0 0, .slice none 0 0, .slice none 0 0, .slice none 0 0, .slice none 0 0, .slice none 0 0] := Blk.new w1 116 [.slice none 0 0, .slice none 0 0, .slice none 0 0, .slice none 0 0, .slice none 0 0, .slice none 0 0, .slice none 0 0]
          obtain ⟨vA1, vk1, hvE1, hvk11, hvk12⟩ := own_form hr1.ev
          have HvE1 := Lib.hid hvE1
          unfold rsV
          rw [hvE1]
          clear hvE1 c0 c1 c2 c3 c4 c5 c6 HCp q0 q1
          go_upto_region 12 with (refine wpList_store_row rfl _ _ _ rfl w1.heap.size #[.slice (some ⟨M1.h.gw, 0, none⟩) l.wn M1.h.kw, .slice (some ⟨M1.h.gr, 0, none⟩) l.tn M1.h.kr, .slice (some ⟨M1.h.gp, 0, none⟩) l.tn M1.h.kp, .slice (some ⟨M1.h.gb, 0, none⟩) l.tn M1.h.kb, .slice (some ⟨M1.gm, 0, none⟩) l.tn M1.km, .slice (some ⟨M1.gd, 0, none⟩) l.wn M1.kd, .slice vA1 x.es.length vk1] rfl rfl 116 _ hx1 size_st7 rfl (st7_one _ _ _ _ _ _ _ _ _ _ _ _ _ _ _ _ _ _ _ _ _) ?_)
          (try simp only [Act.put])
          go_upto_region 12 with fail
          obtain ⟨gs, hgs⟩ : ∃ gs, gs = w1.heap.size := ⟨_, rfl⟩
          obtain ⟨w2, hw2, HG2, HB2, HR2⟩ : ∃ Z9, Z9 = (w1.alloc (.cells #[.slice none 0 0, .slice none 0 0, .slice none 0 0, .slice none 0 0, .slice none 0 0, .slice none 0 0, .slice none 0 0] 116)).setRow w1.heap.size #[.slice (some ⟨M1.h.gw, 0, none⟩) l.wn M1.h.kw, .slice (some ⟨M1.h.gr, 0, none⟩) l.tn M1.h.kr, .slice (some ⟨M1.h.gp, 0, none⟩) l.tn M1.h.kp, .slice (some ⟨M1.h.gb, 0, none⟩) l.tn M1.h.kb, .slice (some ⟨M1.gm, 0, none⟩) l.tn M1.km, .slice (some ⟨M1.gd, 0, none⟩) l.wn M1.kd, .slice vA1 x.es.length vk1] ∧ Hid (Blk Z9 gs 116 (rsL M1 l.tn l.wn)) ∧ Hid (Below wr.heap.size wr Z9) ∧ Hid (RSB Z9 wr.heap.size l.tn l.wn x.S (xAt x.es) x.es M1) := by
            have hA : Below w1.heap.size w1 ((w1.alloc (.cells #[.slice none 0 0, .slice none 0 0, .slice none 0 0, .slice none 0 0, .slice none 0 0, .slice none 0 0, .slice none 0 0] 116)).setRow w1.heap.size #[.slice (some ⟨M1.h.gw, 0, none⟩) l.wn M1.h.kw, .slice (some ⟨M1.h.gr, 0, none⟩) l.tn M1.h.kr, .slice (some ⟨M1.h.gp, 0, none⟩) l.tn M1.h.kp, .slice (some ⟨M1.h.gb, 0, none⟩) l.tn M1.h.kb, .slice (some ⟨M1.gm, 0, none⟩) l.tn M1.km, .slice (some ⟨M1.gd, 0, none⟩) l.wn M1.kd, .slice vA1 x.es.length vk1]) := rowB ((Below.refl _ _).alloc (Nat.le_refl _) _) (Nat.le_refl _)
            refine ⟨_, rfl, Lib.hid ?_, Lib.hid (hb1.trans (hA.mono hb1.size)), Lib.hid (hr1.on hA)⟩
            rw [hgs]
            unfold rsL
            rw [HvE1.out]
            exact setRow_heap _ _ _ #[.slice (some ⟨M1.h.gw, 0, none⟩) l.wn M1.h.kw, .slice (some ⟨M1.h.gr, 0, none⟩) l.tn M1.h.kr, .slice (some ⟨M1.h.gp, 0, none⟩) l.tn M1.h.kp, .slice (some ⟨M1.h.gb, 0, none⟩) l.tn M1.h.kb, .slice (some ⟨M1.gm, 0, none⟩) l.tn M1.km, .slice (some ⟨M1.gd, 0, none⟩) l.wn M1.kd, .slice vA1 x.es.length vk1] _ _ hx1
          have hgsB : wr.heap.size ≤ gs := by have := hb1.size; omega
          have HZ1 := Lib.hid hZ1
          have HCs1 := Lib.hid hcs1
          rw [← hw2, ← hgs]
          clear hw2 hgs hx1 hr1 hb1 hZ1 hcs1 HvE1
          have HLw : Hid (LitAt w w.heap.size l) := HL
          have hL2 := HI.out.lit.below HB2.out HI.out.lit.lt
          have q0 : w2.cell? ⟨w.heap.size, 0, none⟩ = some (.slice l.wA l.wn l.wk) := hL2.cell rfl
          have q1 : w2.cell? ⟨w.heap.size, 1, none⟩ = some (.slice l.tA l.tn l.tk) := hL2.cell rfl
          have HBw2 : Hid (Below w.heap.size w w2) := Lib.hid (HI.out.bel.trans (HB2.out.mono HI.out.bel.size))
          have HT : Hid (Calls Try.prog 94 #[litV l, .pointer (some ⟨gs, 0, none⟩), tnV (tnB t)] w2 (Rt27R l wr.heap.size gs x.S x.es (tnB t) M1.Z w2)) := Lib.hid
            (rt27_any l w2 wr.heap.size gs x.S x.es M1 (tnB t) ((HL.out.keep HBw2.out).up HI.out.bel.size) HB2.out.size hgsB HG2.out HR2.out HOx.out.good HOk.out (by have := HXl.out; omega))
          clear hL2
          cases hpk : pickS l x.S (tnB t) with
          | none =>
            go_wp2_with fail
            refine HT.out.mono ?_
            rintro e w3 ⟨rfl, hb3, _⟩
            have HB3 := Lib.hid (HB2.out.trans hb3)
            have HPk := Lib.hid hpk
            rw [hpk]
            clear hb3 hpk q0 q1
            go_wp2_with fail
            go_roundg (gk - 1)
            case measure => omega
            case rel => exact ⟨t + 1, ns, T, vK, vL, vR, ths, PN, PW, sts, wys, _, _, rfl, rfl, by go_num, by omega, hin, hnm, HX, Lib.hid (HBr.out.trans (by obtain ⟨f, rfl⟩ : ∃ f, gk = f + 1 := ⟨gk - 1, by omega⟩; exact brow_go (bstep_none HPk.out))), HQ, Lib.hid (HI.out.on HB3.out)⟩
          | some yi =>
            go_wp2_with fail
            refine HT.out.mono ?_
            rintro e w3 ⟨rfl, hb3, M2, hg3, hr3, hZ3⟩
            rw [hpk]
            have HPk := Lib.hid hpk
            have HB3 := Lib.hid (HB2.out.trans hb3)
            have HI3 := Lib.hid (HI.out.on HB3.out)
            have HG3 := Lib.hid hg3
            have HR3 := Lib.hid hr3
            obtain ⟨m2, hm2⟩ : ∃ m2, m2 = (kidN l x t).es.length := ⟨_, rfl⟩
            obtain ⟨vA2, vk2, hvE2, hvk21, hvk22⟩ := own_form hr3.ev
            have HvE2 : Hid (M2.vE = .slice vA2 m2 vk2) := Lib.hid (by rw [hm2]; exact hvE2)
            have HM2 : Hid ((kidN l x t).es.length = m2) := Lib.hid hm2.symm
            have hm2b : m2 ≤ 100000 := by
              have h9 := esN_len l x.S (tnB t) x.es
              have h8 := HXl.out
              have h7 : m2 = (esN l x.S (tnB t) x.es).length := hm2
              omega
            have HOff2 : Hid (∀ g, M2.foot g → g < w3.heap.size ∧ ¬ trF gt vK vL vR g) := Lib.hid fun g hg => by
              refine ⟨hr3.foot_lt g hg, fun ht => ?_⟩
              have h1 := HI.out.tr.1.lt g ht
              rcases hr3.foot_ge g hg with h2 | h2
              · omega
              · rw [hZ3, HZ1.out] at h2
                exact HOff.out g (RM.foot_cs h2) ht
            have HGl := Lib.hid hg3.lt
            clear hb3 hg3 hr3 hZ3 hm2 hvE2 hpk HT HB2 HR2 HG2 HZ1 HCs1 HBw2 q0 q1
            have hc7 : w3.cell? ⟨g7, i, none⟩ = some (.slice Aw x.way.length kw) := (HB3.out.cell Hg7l.out).trans HCw.out
            have HWy := Lib.hid (Sl.of_own (HI3.out.way x _ HPW.out))
            go_upto_region 15 with (at_builtin; go_must (refine wpList_app _ rfl _ _ 102 rfl w3.heap.size 131 itn (.agg #[.int .i64 0, .bool false, .int .i64 0]) 3 24 Try.underlying102 hitn hitnz hitns hitnb rfl (by decide) (.slice none 0 0) 0 [] rfl (World.ownsRow_nil _ _ _ _) w3.heap.size Aw x.way.length kw (tnVals (x.way.map tnW)) rfl HWy.out (tn_one _) x.way.length (by omega) (tnVals (x.way.map tnW)) (List.nil_append _) none rfl (by simp only [maxLen]; have := HWl.out; omega) (by have := HWl.out; omega) (Nat.le_refl _) ?_; intro A9 k9 w4 hown hg hat hk7 hk8))
            have hx4 : Below w3.heap.size w3 w4 := (Below.refl _ _).grown hg (Nat.le_refl _) (fun q hq => by cases hq)
            have HX4 := Lib.hid hx4
            have HO4 := Lib.hid hown
            clear hx4 hown hg hat hk7 hk8 hc7
            go_upto_region 16 with (at_builtin; go_must (refine wpList_app _ rfl _ _ 102 rfl w3.heap.size 131 itn (.agg #[.int .i64 0, .bool false, .int .i64 0]) 3 24 Try.underlying102 hitn hitnz hitns hitnb rfl (by decide) (.slice A9 x.way.length k9) x.way.length (tnVals (x.way.map tnW)) rfl (HO4.out.alloc _) (w4.heap.size + 1) (some ⟨w4.heap.size, 0, none⟩) 1 1 (tnVals [tnW t]) rfl (((Blk.new w4 131 (tnVals [tnW t])).sl rfl).up (by simp)) (tn_one _) (x.way.length + 1) rfl (tnVals ((x.way ++ [t]).map tnW)) (by simp [tnVals]) _ rfl (by simp only [maxLen]; have := HWl.out; omega) (by have := HWl.out; omega) (by rw [World.size_alloc]; have := HX4.out.size; omega) ?_; intro A10 k10 w5 hown5 hg5 hat5 hk75 hk85))
            have hx5 : Below w3.heap.size w3 w5 := (HX4.out.alloc HX4.out.size _).grown hg5 (by rw [World.size_alloc]; have := HX4.out.size; omega) (fun q hq => (HO4.out.lt q hq).1)
            have HX5 := Lib.hid hx5
            have hwln : (kidN l x t).way.length = x.way.length + 1 := by show (x.way ++ [t]).length = _; simp
            have HWn := Lib.hid hwln
            have HO5 : Hid (w5.ownsRow w3.heap.size 131 3 (.slice A10 (x.way.length + 1) k10) (kidN l x t).way.length (tnVals ((kidN l x t).way.map tnW))) := Lib.hid (by rw [HWn.out]; exact hown5)
            have g6c : w5.cell? ⟨gs, 6, none⟩ = some (.slice vA2 m2 vk2) := by rw [← HvE2.out]; exact (HG3.out.below HX5.out HGl.out).cell rfl
            clear hx5 hown5 hg5 hat5 hk75 hk85 HX4 HO4 hwln
            go_wp2_with fail
            refine (rpairs_any (kidN l x t).es M2.cs vA2 l.tn m2 vk2 w5 (EvcAt.rsb (HR3.out.on HX5.out) (by show M2.vE = .slice vA2 (kidN l x t).es.length vk2; rw [HM2.out]; exact HvE2.out)) HM2.out hm2b n2 (fun e he => (esN_mem he).elim (fun h8 => (HOx.out.ok e h8).1) (fun h8 => (evOf_ok HOk.out h8).1))).mono ?_
            rintro e w6 ⟨A11, k11, rfl, _, hb6⟩
            have HX6 : Hid (Below w3.heap.size w3 w6) := Lib.hid (HX5.out.trans (hb6.mono HX5.out.size))
            have HO6 := Lib.hid (HO5.out.below hb6)
            obtain ⟨rc, hrc⟩ : ∃ rc, rc = (rcsE (kidN l x t).es (kidN l x t).es.length).length := ⟨_, rfl⟩
            rw [← hrc]
            clear hb6 g6c HO5 HX5
            cases hra : raceN (kidN l x t) with
            | true =>
              have hrp : 0 < rc := by rw [hrc]; exact race_yes hra
              have hrp2 : (0 : Int) < rc := by omega
              have hst9 : freeN l = .race (kidN l x t).way := HF.out.trans (by obtain ⟨f, rfl⟩ : ∃ f, ga = f + 1 := ⟨ga - 1, by omega⟩; exact bfs_stop HX0.out (HBr.out.trans (by obtain ⟨f, rfl⟩ : ∃ f, gk = f + 1 := ⟨gk - 1, by omega⟩; exact brow_stop (bstep_race HPk.out hra))))
              have Hst9 := Lib.hid hst9
              clear hst9 hra hrc
              go_wp2_with fail
              go_ret3
              rw [Hst9.out]
              refine ⟨A10, k10, ?_, ?_, HI3.out.bel.trans (HX6.out.mono HI3.out.bel.size)⟩
              · exact congrArg (fun n => Ending.returned (.tuple #[.bool false, .slice A10 n k10, .bool false])) HWn.out.symm
              · have h9 := own_lowW HO6.out HI3.out.bel.size
                rw [← HWn.out] at h9
                exact h9
            | false =>
              have hr0 : rc = 0 := hrc.trans (race_no hra)
              have HRa := Lib.hid hra
              clear hrc hra
              subst hr0
              have HOk2 := Lib.hid (HOx.out.kid HOk.out hlt HRa.out)
              have hL6 := HI3.out.lit.below HX6.out HI3.out.lit.lt
              have q0 : w6.cell? ⟨w.heap.size, 0, none⟩ = some (.slice l.wA l.wn l.wk) := hL6.cell rfl
              have q1 : w6.cell? ⟨w.heap.size, 1, none⟩ = some (.slice l.tA l.tn l.tk) := hL6.cell rfl
              have hG6 := HG3.out.below HX6.out HGl.out
              have HG6 := Lib.hid hG6
              have d0 := hG6.cell (i := 0) rfl
              have d1 := hG6.cell (i := 1) rfl
              have d2 := hG6.cell (i := 2) rfl
              have d3 := hG6.cell (i := 3) rfl
              have d4 := hG6.cell (i := 4) rfl
              have d5 := hG6.cell (i := 5) rfl
              have d6 : w6.cell? ⟨gs, 6, none⟩ = some (.slice vA2 m2 vk2) := by rw [← HvE2.out]; exact hG6.cell rfl
              have HFl : Hid (Calls Try.prog 100 #[litV l, .agg #[.slice (some ⟨M2.h.gw, 0, none⟩) l.wn M2.h.kw, .slice (some ⟨M2.h.gr, 0, none⟩) l.tn M2.h.kr, .slice (some ⟨M2.h.gp, 0, none⟩) l.tn M2.h.kp, .slice (some ⟨M2.h.gb, 0, none⟩) l.tn M2.h.kb, .slice (some ⟨M2.gm, 0, none⟩) l.tn M2.km, .slice (some ⟨M2.gd, 0, none⟩) l.wn M2.kd, .slice vA2 m2 vk2]] w6 (FltR (keyN l (kidN l x t)) w6)) := Lib.hid (by
                have h9 := flat_any l w6 wr.heap.size (kidN l x t).S (kidN l x t).es M2 ((HL.out.keep (HI3.out.bel.trans (HX6.out.mono HI3.out.bel.size))).up (HI3.out.bel.trans (HX6.out.mono HI3.out.bel.size)).size) (HR3.out.on HX6.out) HOk.out (by rw [HM2.out]; exact hm2b) HOk2.out.ok
                unfold rsV at h9
                rw [HvE2.out] at h9
                exact h9)
              have HKp : Hid (0 < (keyN l (kidN l x t)).length) := Lib.hid (flatK_pos n1)
              clear hL6 hG6
              go_wp2_with fail
              refine HFl.out.mono ?_
              rintro e w7 ⟨A12, k12, rfl, ho7, hb7⟩
              obtain ⟨g12, rfl, hg12, hrw12⟩ := Rw.of_own ho7 HKp.out
              have HX7 : Hid (Below w3.heap.size w3 w7) := Lib.hid (HX6.out.trans (hb7.mono HX6.out.size))
              have HO7 := Lib.hid (HO6.out.below hb7)
              have HG7 := Lib.hid (HG6.out.below hb7 HG6.out.lt)
              have HI7 := Lib.hid (HI3.out.on HX7.out)
              have hw36 := HX6.out.size
              have hw3r := HB3.out.size
              have HPt : Hid (Calls Try.prog 99 #[.pointer (some ⟨gt, 0, none⟩), .slice (some ⟨g12, 0, none⟩) (keyN l (kidN l x t)).length k12] w7 (PutR T (keyN l (kidN l x t)) w.heap.size gt g12 k12 vK vL vR ths w7)) := Lib.hid (by
                refine put_any T (keyN l (kidN l x t)) w.heap.size gt g12 k12 vK vL vR ths w7 HI7.out.tr hrw12 (fun e => ?_) (fun e => ?_) (by rw [HQ.out.tk, List.length_map]; omega) HI7.out.bel.size (fun q hq => ?_)
                · have := (HI.out.tr.1.kL.lt g12 e.symm).2
                  omega
                · have := (HI.out.tr.1.kR.lt g12 e.symm).2
                  omega
                · rw [HQ.out.tk] at hq
                  obtain ⟨y, hy, rfl⟩ := List.mem_map.1 hq
                  obtain ⟨j, hj⟩ := List.mem_iff_getElem?.1 hy
                  exact flatK_len (HQ.out.ok j y hj).1 n2 n4)
              clear q0 q1 d0 d1 d2 d3 d4 d5 d6 HFl HKp ho7 hb7 hg12 hrw12 HG6 HX6 HO6
              go_wp2_with fail
              refine HPt.out.mono ?_
              rintro e w8 ⟨vK2, vL2, vR2, rfl, ht8, hf8, hq8⟩
              have HTw := Lib.hid HI7.out.tr.2
              cases hc : (ns.map (keyN l)).contains (keyN l (kidN l x t)) with
              | true =>
                have hc2 : T.ks.contains (keyN l (kidN l x t)) = true := by rw [HQ.out.tk]; exact hc
                obtain ⟨hp1, hp2⟩ := put_seen HTw.out hc2
                rw [hp2] at ht8
                rw [hp1]
                have HI8 := Lib.hid (HI7.out.put ht8 hf8 hq8)
                have Hc := Lib.hid hc
                clear hc hc2 hp1 hp2 ht8 hf8 hq8
                go_wp2_with fail
                go_roundg (gk - 1)
                case measure => omega
                case rel => exact ⟨t + 1, ns, T, vK2, vL2, vR2, _, PN, PW, sts, wys, _, _, rfl, rfl, by go_num, by omega, hin, hnm, HX, Lib.hid (HBr.out.trans (by obtain ⟨f, rfl⟩ : ∃ f, gk = f + 1 := ⟨gk - 1, by omega⟩; exact brow_go (bstep_seen HPk.out HRa.out Hc.out))), HQ, HI8⟩
              | false =>
                have hc2 : T.ks.contains (keyN l (kidN l x t)) = false := by rw [HQ.out.tk]; exact hc
                obtain ⟨hp1, hp2⟩ := put_new HTw.out hc2
                rw [hp1]
                rw [hp1, if_pos rfl] at ht8
                have HP2 := Lib.hid hp2
                have HA7 := Lib.hid (HI7.out.addN (y := kidN l x t) (M2 := M2) (vy := .slice A10 (x.way.length + 1) k10) ((HR3.out.on HX7.out).low HI.out.bel.size) (fun g hg => (HOff2.out g hg).2) (own_lowW HO7.out HI3.out.bel.size))
                have HI8 := Lib.hid (HA7.out.put ht8 hf8 hq8)
                have Hc := Lib.hid hc
                have hG8 : Blk w8 gs 116 (rsL M2 l.tn l.wn) := HG7.out.kept (hf8.block gs HG7.out.lt (fun h8 => by have := HI.out.tr.1.lt gs h8; omega))
                have HG8 := Lib.hid hG8
                clear hc hc2 hp1 hp2 ht8 hf8 hq8 hG8 HG7 HO7
                by_cases hmany : ns.length = 30000
                · have hst9 : freeN l = .many := HF.out.trans (by obtain ⟨f, rfl⟩ : ∃ f, ga = f + 1 := ⟨ga - 1, by omega⟩; exact bfs_stop HX0.out (HBr.out.trans (by obtain ⟨f, rfl⟩ : ∃ f, gk = f + 1 := ⟨gk - 1, by omega⟩; exact brow_stop (bstep_many HPk.out HRa.out Hc.out hmany))))
                  have Hst9 := Lib.hid hst9
                  have hm1 : (ns.length : Int) = 30000 := by omega
                  clear hst9
                  go_wp2_with fail
                  go_ret3
                  rw [Hst9.out]
                  exact ⟨rfl, HI8.out.bel⟩
                · have hm1 : ¬ (ns.length : Int) = 30000 := by omega
                  have HI8a := Lib.hid (HI8.out.on (W' := w8.alloc (.cells #[.slice (some ⟨M2.h.gw, 0, none⟩) l.wn M2.h.kw, .slice (some ⟨M2.h.gr, 0, none⟩) l.tn M2.h.kr, .slice (some ⟨M2.h.gp, 0, none⟩) l.tn M2.h.kp, .slice (some ⟨M2.h.gb, 0, none⟩) l.tn M2.h.kb, .slice (some ⟨M2.gm, 0, none⟩) l.tn M2.km, .slice (some ⟨M2.gd, 0, none⟩) l.wn M2.kd, .slice vA2 m2 vk2] 116)) ((Below.refl _ _).alloc (Nat.le_refl _) _))
                  have d0 := HG8.out.cell (i := 0) rfl
                  have d1 := HG8.out.cell (i := 1) rfl
                  have d2 := HG8.out.cell (i := 2) rfl
                  have d3 := HG8.out.cell (i := 3) rfl
                  have d4 := HG8.out.cell (i := 4) rfl
                  have d5 := HG8.out.cell (i := 5) rfl
                  have d6 : w8.cell? ⟨gs, 6, none⟩ = some (.slice vA2 m2 vk2) := by rw [← HvE2.out]; exact HG8.out.cell rfl
                  have hA8 := HI8a.out.all
                  rw [HQ.out.sl] at hA8
                  have HA8 := Lib.hid hA8
                  have HSt : Hid (sts.flatMap (stC l.tn l.wn) ++ [.slice (some ⟨M2.h.gw, 0, none⟩) l.wn M2.h.kw, .slice (some ⟨M2.h.gr, 0, none⟩) l.tn M2.h.kr, .slice (some ⟨M2.h.gp, 0, none⟩) l.tn M2.h.kp, .slice (some ⟨M2.h.gb, 0, none⟩) l.tn M2.h.kb, .slice (some ⟨M2.gm, 0, none⟩) l.tn M2.km, .slice (some ⟨M2.gd, 0, none⟩) l.wn M2.kd, .slice vA2 m2 vk2] = (sts ++ [some M2]).flatMap (stC l.tn l.wn)) := Lib.hid (by
                    rw [List.flatMap_append, List.flatMap_cons, List.flatMap_nil, List.append_nil, stC_some HvE2.out]
                    rfl)
                  clear hA8
                  go_upto_region 23 with (at_builtin; go_must (refine wpList_app _ rfl _ _ 222 rfl w.heap.size 116 ist (.agg #[.slice none 0 0, .slice none 0 0, .slice none 0 0, .slice none 0 0, .slice none 0 0, .slice none 0 0, .slice none 0 0]) 7 168 Try.underlying222 hist histz hists histb rfl (by decide) (.slice (some ⟨g6, 0, none⟩) ns.length k6) ns.length (sts.flatMap (stC l.tn l.wn)) rfl HA8.out (w8.heap.size + 1) (some ⟨w8.heap.size, 0, none⟩) 1 1 [.slice (some ⟨M2.h.gw, 0, none⟩) l.wn M2.h.kw, .slice (some ⟨M2.h.gr, 0, none⟩) l.tn M2.h.kr, .slice (some ⟨M2.h.gp, 0, none⟩) l.tn M2.h.kp, .slice (some ⟨M2.h.gb, 0, none⟩) l.tn M2.h.kb, .slice (some ⟨M2.gm, 0, none⟩) l.tn M2.km, .slice (some ⟨M2.gd, 0, none⟩) l.wn M2.kd, .slice vA2 m2 vk2] rfl (((Blk.new w8 116 [.slice (some ⟨M2.h.gw, 0, none⟩) l.wn M2.h.kw, .slice (some ⟨M2.h.gr, 0, none⟩) l.tn M2.h.kr, .slice (some ⟨M2.h.gp, 0, none⟩) l.tn M2.h.kp, .slice (some ⟨M2.h.gb, 0, none⟩) l.tn M2.h.kb, .slice (some ⟨M2.gm, 0, none⟩) l.tn M2.km, .slice (some ⟨M2.gd, 0, none⟩) l.wn M2.kd, .slice vA2 m2 vk2]).sl rfl).up (by simp)) (st7_cells _ _ _ _ _ _ _ _ _ _ _ _ _ _ _ _ _ _ _ _ _) (ns.length + 1) rfl _ HSt.out _ rfl (by simp only [maxLen]; omega) (by omega) (by rw [World.size_alloc]; have := HI8.out.bel.size; omega) ?_; intro A13 k13 w9 hown9 hg9 hat9 hk79 hk89))
                  have hl9 : (sts ++ [some M2]).length = ns.length + 1 := by simp [HQ.out.sl]
                  have HI9 := Lib.hid (HI8a.out.allG (vA' := .slice A13 (ns.length + 1) k13) (sts' := sts ++ [some M2]) (HI8a.out.bel.grown hg9 HI8a.out.bel.size (fun q hq => (HI8a.out.all.lt q hq).1)) (fun q h1 h2 => hg9.block q h1 h2) (by rw [hl9]; exact hown9))
                  have HI9a := Lib.hid (HI9.out.on (W' := w9.alloc (.cells #[.slice A10 (x.way.length + 1) k10] 102)) ((Below.refl _ _).alloc (Nat.le_refl _) _))
                  have hY9 := HI9a.out.ways
                  rw [HQ.out.yl] at hY9
                  have HY9 := Lib.hid hY9
                  clear hown9 hg9 hat9 hk79 hk89 hl9 hY9 d0 d1 d2 d3 d4 d5 d6 HSt HA8 HI8a
                  go_wp2_with (at_builtin; go_must (refine wpList_app _ rfl _ _ 223 rfl w.heap.size 102 iwy (.slice none 0 0) 1 24 Try.underlying223 hiwy hiwyz hiwys hiwyb rfl (by decide) (.slice (some ⟨g7, 0, none⟩) ns.length k7) ns.length wys rfl HY9.out (w9.heap.size + 1) (some ⟨w9.heap.size, 0, none⟩) 1 1 [.slice A10 (x.way.length + 1) k10] rfl (((Blk.new w9 102 _).sl rfl).up (by simp)) (by simp [Value.oneCell']) (ns.length + 1) rfl _ rfl _ rfl (by simp only [maxLen]; omega) (by omega) (by rw [World.size_alloc]; have := HI9.out.bel.size; omega) ?_; intro A14 k14 wa hown10 hg10 hat10 hk710 hk810))
                  have hl10 : (wys ++ [Value.slice A10 (x.way.length + 1) k10]).length = ns.length + 1 := by simp [HQ.out.yl]
                  have HIa := Lib.hid (HI9a.out.waysG (vW' := .slice A14 (ns.length + 1) k14) (wys' := wys ++ [Value.slice A10 (x.way.length + 1) k10]) (HI9a.out.bel.grown hg10 HI9a.out.bel.size (fun q hq => (HI9a.out.ways.lt q hq).1)) (fun q h1 h2 => hg10.block q h1 h2) (by rw [hl10]; exact hown10))
                  clear hown10 hg10 hat10 hk710 hk810 hl10
                  go_roundg (gk - 1)
                  case measure => omega
                  case rel =>
                    refine ⟨t + 1, ns ++ [kidN l x t], (putT T (keyN l (kidN l x t))).1, vK2, vL2, vR2, _, _, _, sts ++ [some M2], wys ++ [Value.slice A10 (x.way.length + 1) k10], _, _, rfl, rfl, by go_num, by omega, by simp; omega, by simp; omega, Lib.hid (by rw [List.getElem?_append_left hin]; exact HX.out), Lib.hid (HBr.out.trans (by obtain ⟨f, rfl⟩ : ∃ f, gk = f + 1 := ⟨gk - 1, by omega⟩; exact brow_go (bstep_new HPk.out HRa.out Hc.out hmany))), Lib.hid (HQ.out.snoc HP2.out (HQ.out.ok.snoc HOk.out HX.out hlt HRa.out)), HIa⟩
        · obtain rfl : t = l.tn := by omega
          have hg0 : gk = 0 := by omega
          subst hg0
          have d1 : ¬ (l.tn : Int) < l.tn := by omega
          have HTh := Lib.hid (HI.out.there HQ.out.sl hin)
          have HDn : Hid (∀ wz, wz = wr.setCells g6 (i * 7) [.slice none 0 0, .slice none 0 0, .slice none 0 0, .slice none 0 0, .slice none 0 0, .slice none 0 0, .slice none 0 0] → RfI l w wz gt T vK vL vR ths PN PW (sts.set i none) wys (.slice (some ⟨g6, 0, none⟩) ns.length k6) (.slice (some ⟨g7, 0, none⟩) ns.length k7)) := Lib.hid fun wz hz => by rw [hz]; exact HI.out.done HQ.out.sl hin
          go_wp2_with (refine wpList_store_mid rfl _ _ _ rfl g6 (i * 7) #[.slice none 0 0, .slice none 0 0, .slice none 0 0, .slice none 0 0, .slice none 0 0, .slice none 0 0, .slice none 0 0] rfl rfl HTh.out size_st7 (st7_one _ _ _ _ _ _ _ _ _ _ _ _ _ _ _ _ _ _ _ _ _) ?_; show wpList _ _ _ _ _ (wr.setCells g6 (i * 7) [.slice none 0 0, .slice none 0 0, .slice none 0 0, .slice none 0 0, .slice none 0 0, .slice none 0 0, .slice none 0 0]); obtain ⟨wz, hwz⟩ : ∃ wz, wz = wr.setCells g6 (i * 7) [.slice none 0 0, .slice none 0 0, .slice none 0 0, .slice none 0 0, .slice none 0 0, .slice none 0 0, .slice none 0 0] := ⟨_, rfl⟩; rw [← hwz]; have HW9 := Lib.hid (HDn.out wz hwz); clear hwz)
          go_roundg (ga - 1)
          case measure => omega
          case rel => exact ⟨i + 1, ns, T, vK, vL, vR, ths, PN, PW, sts.set i none, wys, _, _, rfl, rfl, by go_num, by omega, hin, by omega, hnm, Lib.hid (HF.out.trans (by obtain ⟨f, rfl⟩ : ∃ f, ga = f + 1 := ⟨ga - 1, by omega⟩; exact bfs_go (HX0.out) (HBr.out))), Lib.hid HQ.out.done, HW9⟩
    · obtain rfl : i = ns.length := by omega
      have hfr : freeN l = .free := HF.out.trans (bfs_end (List.getElem?_eq_none (Nat.le_refl _)))
      have Hfr := Lib.hid hfr
      clear hfr
      go_wp2_with fail
      go_ret3
      rw [Hfr.out]
      exact ⟨rfl, HI.out.bel⟩
end Go.Proofs.Ytgbopmgeicokoaa
