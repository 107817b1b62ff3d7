/-
The picture of a node as a map's key; a map of the call's ow
-/
import Derived.Test.YtgjdgapfnfhklaaGreatKeq
import Derived.Test.YtgjdgapfnfhklaaGreatZ4
import Derived.Test.YtgjdgapfnfhklaaGreatZ26
set_option linter.unusedSimpArgs false
set_option linter.unusedVariables false
set_option maxRecDepth 100000
namespace Go.Proofs.YtgjdgapfnfhklaaGreat
open Go.RowKit Go.Maps
theorem row_pic : 103 < Tryz.prog.types.size := of_decide_eq_true (by kernel_rfl)
theorem wide_pic : (match Tryz.prog.underlying 103 with | some (.array _ _) | some (.struct _) => true | _ => false) = true := by kernel_rfl
theorem law_pic : Keyed Tryz.prog 103 := Keyed.of_law (deep_law_laid laid_K (m := 6) (by omega) row_pic (by kernel_rfl) wide_pic)
theorem pic_key {cs : List Value} (hl : cs.length = 162) (hi : IntsOk cs) : ∃ kl, keyOf Tryz.prog 103 (.agg cs.toArray) = some kl := by
 have hc : Tryz.prog.cellsOf 103 = 162 := by kernel_rfl
 have hk : Tryz.prog.keyType 103 = true := by kernel_rfl
 have hf : fitsK Tryz.prog (Tryz.prog.types.size + 1) 103 = true := by kernel_rfl
 have hw := wide_pic
 obtain ⟨ls, hls⟩ := keyLits_ok _ 103 cs hf (by rw [hl, hc]) hi
 have hfm : (Value.agg cs.toArray).formed Tryz.prog 103 = true := by
  unfold Value.formed
  split at hw <;> rename_i h9 <;> simp_all
 unfold keyOf
 refine ⟨.string (keyBytes ls), ?_⟩
 split
 ·rw [hk, hfm]
  simp only [Bool.and_self, if_true, Value.cells]
  rw [hls]
  rfl
 ·rw [hk, hfm]
  simp only [Bool.and_self, if_true, Value.cells]
  rw [hls]
  rfl
 ·rename_i h1 h2
  split at hw
  ·rename_i n e h9; exact absurd h9 (h1 n e)
  ·rename_i fs h9; exact absurd h9 (h2 fs)
  ·cases hw
def PicMap (w : World) (b n : Nat) (ks : List (List Value)) : Prop :=
 ∃ D : DataW Unit, w.ownsMap Tryz.prog 103 (plainElem Tryz.prog 3) b n D /\ IsMap D /\ ∀ cs kl, keyOf Tryz.prog 103 (.agg cs.toArray) = some kl -> D.atKey kl (.lit (.int .i64 0)) = .lit (.int .i64 (pmN ks cs))
section
variable {w w' : World} {b n : Nat} {ks : List (List Value)}
theorem PicMap.made (w : World) : PicMap (w.alloc (.map #[] 0)) w.heap.size 0 [] := ⟨.map [], World.ownsMap_made w _ _ _, isMap_empty, fun cs kl _ => by rw [pmN_out (by simp)]; rfl⟩
theorem PicMap.lt (h : PicMap w b n ks) : b < w.heap.size := h.choose_spec.1.lt
theorem PicMap.kept {row : Option Nat} (h : PicMap w b n ks) (hg : w.grownBy w' row) (hne : some b ≠ row) : PicMap w' b n ks := by
 obtain ⟨D, h1, h2⟩ := h
 exact ⟨D, h1.kept hg hne, h2⟩
theorem PicMap.on (h : PicMap w b n ks) (hb : Below w.heap.size w w') : PicMap w' b n ks := h.kept (gb_below hb none) (by simp)
theorem pic_lit {cs cs' : List Value} {kl : Go.Lit} (h : keyOf Tryz.prog 103 (.agg cs.toArray) = some kl) (h' : keyOf Tryz.prog 103 (.agg cs'.toArray) = some kl) : cs = cs' := by
 have := law_pic.inj h h'
 injection this with this
 simpa using this
theorem PicMap.look (h : PicMap w b n ks) {cs : List Value} (hl : cs.length = 162) (hi : IntsOk cs) :
  (Instr.lookup 107 (.map (some b)) (.agg cs.toArray) false).run Tryz.prog w = .ok (.int .i64 (pmN ks cs)) w := by
 obtain ⟨kl, hk⟩ := pic_key hl hi
 obtain ⟨D, h1, _, h3⟩ := h
 obtain ⟨c, hrun, hat, _⟩ := h1.lookup_int law_pic Tryz.underlying107 Tryz.underlying3 (zero_intP w) hk
 rw [h3 cs kl hk] at hat
 injection hat with hat
 injection hat with _ hat
 rw [hrun, <- hat]
theorem PicMap.put (h : PicMap w b n ks) (hn : n < maxLen) {cs : List Value} (hl : cs.length = 162) (hi : IntsOk cs) :
  ∃ w', (Instr.mapUpdate 107 (.map (some b)) (.agg cs.toArray) (.int .i64 1)).run Tryz.prog w = .ok () w' /\ PicMap w' b (n + 1) (ks ++ [cs]) /\ w.grownBy w' (some b) := by
 obtain ⟨kl, hk⟩ := pic_key hl hi
 obtain ⟨D, h1, h2, h3⟩ := h
 obtain ⟨w', hrun, r1, r2⟩ := h1.update law_pic Tryz.underlying107 hn hk (plainElem_int (H := Unit) Tryz.underlying3 (a := 1) (by decide))
 refine ⟨w', hrun, ⟨_, r1, h2.put _ _, fun cs' kl' hk' => ?_⟩, r2⟩
 by_cases he : kl' = kl
 ·subst he
  have := pic_lit hk' hk
  subst this
  rw [atKey_put_same h2 (law_pic.key hk), pmN_in (by simp)]
 ·rw [atKey_put_other (fun e => he (by rw [e])), h3 cs' kl' hk']
  have hne : cs' ≠ cs := by
   intro e
   subst e
   rw [hk] at hk'
   injection hk' with hk'
   exact he hk'.symm
  rw [pmN_snoc hne]
end
end Go.Proofs.YtgjdgapfnfhklaaGreat
namespace Go.Proofs.YtgjdgapfnfhklaaGreat
open Go.RowKit Go.Maps
theorem row_pt : 157 < Tryz.prog.types.size := of_decide_eq_true (by kernel_rfl)
theorem wide_pt : (match Tryz.prog.underlying 157 with | some (.array _ _) | some (.struct _) => true | _ => false) = true := by kernel_rfl
theorem law_pt : Keyed Tryz.prog 157 := Keyed.of_law (deep_law_laid laid_K (m := 6) (by omega) row_pt (by kernel_rfl) wide_pt)
theorem pt_key {cs : List Value} (hl : cs.length = 110) (hi : IntsOk cs) : ∃ kl, keyOf Tryz.prog 157 (.agg cs.toArray) = some kl := by
 have hc : Tryz.prog.cellsOf 157 = 110 := by kernel_rfl
 have hk : Tryz.prog.keyType 157 = true := by kernel_rfl
 have hf : fitsK Tryz.prog (Tryz.prog.types.size + 1) 157 = true := by kernel_rfl
 have hw := wide_pt
 obtain ⟨ls, hls⟩ := keyLits_ok _ 157 cs hf (by rw [hl, hc]) hi
 have hfm : (Value.agg cs.toArray).formed Tryz.prog 157 = true := by
  unfold Value.formed
  split at hw <;> rename_i h9 <;> simp_all
 unfold keyOf
 refine ⟨.string (keyBytes ls), ?_⟩
 split
 ·rw [hk, hfm]
  simp only [Bool.and_self, if_true, Value.cells]
  rw [hls]
  rfl
 ·rw [hk, hfm]
  simp only [Bool.and_self, if_true, Value.cells]
  rw [hls]
  rfl
 ·rename_i h1 h2
  split at hw
  ·rename_i n e h9; exact absurd h9 (h1 n e)
  ·rename_i fs h9; exact absurd h9 (h2 fs)
  ·cases hw
def PtMap (w : World) (b n : Nat) (ks : List (List Value)) : Prop :=
 ∃ D : DataW Unit, w.ownsMap Tryz.prog 157 (plainElem Tryz.prog 3) b n D /\ IsMap D /\ ∀ cs kl, keyOf Tryz.prog 157 (.agg cs.toArray) = some kl -> D.atKey kl (.lit (.int .i64 0)) = .lit (.int .i64 (pmN ks cs))
section
variable {w w' : World} {b n : Nat} {ks : List (List Value)}
theorem PtMap.made (w : World) : PtMap (w.alloc (.map #[] 0)) w.heap.size 0 [] := ⟨.map [], World.ownsMap_made w _ _ _, isMap_empty, fun cs kl _ => by rw [pmN_out (by simp)]; rfl⟩
theorem PtMap.lt (h : PtMap w b n ks) : b < w.heap.size := h.choose_spec.1.lt
theorem PtMap.kept {row : Option Nat} (h : PtMap w b n ks) (hg : w.grownBy w' row) (hne : some b ≠ row) : PtMap w' b n ks := by
 obtain ⟨D, h1, h2⟩ := h
 exact ⟨D, h1.kept hg hne, h2⟩
theorem PtMap.on (h : PtMap w b n ks) (hb : Below w.heap.size w w') : PtMap w' b n ks := h.kept (row := none) ⟨hb.os, hb.tape, hb.output, hb.size, fun k hk _ => hb.block k hk⟩ (by simp)
theorem pt_lit {cs cs' : List Value} {kl : Go.Lit} (h : keyOf Tryz.prog 157 (.agg cs.toArray) = some kl) (h' : keyOf Tryz.prog 157 (.agg cs'.toArray) = some kl) : cs = cs' := by
 have := law_pt.inj h h'
 injection this with this
 simpa using this
theorem PtMap.look (h : PtMap w b n ks) {cs : List Value} (hl : cs.length = 110) (hi : IntsOk cs) :
  (Instr.lookup 159 (.map (some b)) (.agg cs.toArray) false).run Tryz.prog w = .ok (.int .i64 (pmN ks cs)) w := by
 obtain ⟨kl, hk⟩ := pt_key hl hi
 obtain ⟨D, h1, _, h3⟩ := h
 obtain ⟨c, hrun, hat, _⟩ := h1.lookup_int law_pt Tryz.underlying159 Tryz.underlying3 (zero_intP w) hk
 rw [h3 cs kl hk] at hat
 injection hat with hat
 injection hat with _ hat
 rw [hrun, <- hat]
theorem PtMap.put (h : PtMap w b n ks) (hn : n < maxLen) {cs : List Value} (hl : cs.length = 110) (hi : IntsOk cs) :
  ∃ w', (Instr.mapUpdate 159 (.map (some b)) (.agg cs.toArray) (.int .i64 1)).run Tryz.prog w = .ok () w' /\ PtMap w' b (n + 1) (ks ++ [cs]) /\ w.grownBy w' (some b) := by
 obtain ⟨kl, hk⟩ := pt_key hl hi
 obtain ⟨D, h1, h2, h3⟩ := h
 obtain ⟨w', hrun, r1, r2⟩ := h1.update law_pt Tryz.underlying159 hn hk (plainElem_int (H := Unit) Tryz.underlying3 (a := 1) (by decide))
 refine ⟨w', hrun, ⟨_, r1, h2.put _ _, fun cs' kl' hk' => ?_⟩, r2⟩
 by_cases he : kl' = kl
 ·subst he
  have := pt_lit hk' hk
  subst this
  rw [atKey_put_same h2 (law_pt.key hk), pmN_in (by simp)]
 ·rw [atKey_put_other (fun e => he (by rw [e])), h3 cs' kl' hk']
  have hne : cs' ≠ cs := by
   intro e
   subst e
   rw [hk] at hk'
   injection hk' with hk'
   exact he hk'.symm
  rw [pmN_snoc hne]
end
end Go.Proofs.YtgjdgapfnfhklaaGreat
namespace Go.Proofs.YtgjdgapfnfhklaaGreat
open Go.RowKit
inductive ScR (l : Lit) : LS -> Prop
 | first : ScR l (firstS l)
 | turn {S : LS} {t : Nat} {x : Ins} : ScR l S -> t < l.tn -> pickS l S (tnB t) = some x -> ScR l (turnS l S (tnB t))
def ClN (l : Lit) (ns : List Nd) (x : Nd) (t : Nat) : Prop := pickS l x.S (tnB t) ≠ none -> raceN (kidN l x t) = false /\ keyN l (kidN l x t) ∈ ns.map (keyN l)
structure Srch (l : Lit) (ns : List Nd) : Prop where
 ok : OkNs l ns
 le : ns.length <= 30000
 sc : ∀ x ∈ ns, ScR l x.S
 root : rootN l ∈ ns
theorem ClN.app {l : Lit} {ns es : List Nd} {x : Nd} {t : Nat} (h : ClN l ns x t) : ClN l (ns ++ es) x t := fun hp => by
 obtain ⟨h1, h2⟩ := h hp
 exact ⟨h1, by rw [List.map_append]; exact List.mem_append_left _ h2⟩
theorem bstep_cl {l : Lit} {ns ns' : List Nd} {x : Nd} {t i : Nat} (hok : okLit l = true) (hS : Srch l ns) (hx : ns[i]? = some x) (ht : t < l.tn) (h : bstep l ns x t = .go ns') :
  Srch l ns' /\ (∃ es, ns' = ns ++ es) /\ ClN l ns' x t := by
 cases hp : pickS l x.S (tnB t) with
 | none =>
  rw [bstep_none hp] at h
  injection h with h
  subst h
  exact ⟨hS, ⟨[], by simp⟩, fun h9 => absurd hp h9⟩
 | some y =>
  cases hr : raceN (kidN l x t) with
  | true => rw [bstep_race hp hr] at h; cases h
  | false =>
   cases hc : (ns.map (keyN l)).contains (keyN l (kidN l x t)) with
   | true =>
    rw [bstep_seen hp hr hc] at h
    injection h with h
    subst h
    exact ⟨hS, ⟨[], by simp⟩, fun _ => ⟨hr, by simpa using hc⟩⟩
   | false =>
    by_cases hm : ns.length = 30000
    ·rw [bstep_many hp hr hc hm] at h; cases h
    ·rw [bstep_new hp hr hc hm] at h
     injection h with h
     subst h
     refine ⟨⟨hS.ok.snoc hok hx ht hr, ?_, ?_, List.mem_append_left _ hS.root⟩, ⟨_, rfl⟩, fun _ => ⟨hr, ?_⟩⟩
     ·have := hS.le
      rw [List.length_append, List.length_singleton]
      omega
     ·intro y hy
      rcases List.mem_append.1 hy with hy | hy
      ·exact hS.sc y hy
      ·rw [List.mem_singleton] at hy
       subst hy
       exact ScR.turn (hS.sc x (List.mem_of_getElem? hx)) ht hp
     ·rw [List.map_append]
      exact List.mem_append_right _ (by simp)
theorem brow_cl {l : Lit} {x : Nd} {i : Nat} (hok : okLit l = true) : ∀ (k : Nat) {ns ns' : List Nd} {t : Nat}, Srch l ns -> ns[i]? = some x -> t + k <= l.tn -> brow l x k ns t = .go ns' ->
  Srch l ns' /\ (∃ es, ns' = ns ++ es) /\ ∀ t', t <= t' -> t' < t + k -> ClN l ns' x t'
 | 0, ns, ns', t, hS, hx, hk, h => by
  rw [brow] at h
  injection h with h
  subst h
  exact ⟨hS, ⟨[], by simp⟩, fun t' h1 h2 => absurd h2 (by omega)⟩
 | k + 1, ns, ns', t, hS, hx, hk, h => by
  cases hb : bstep l ns x t with
  | stop a => rw [brow_stop hb] at h; cases h
  | go n1 =>
   rw [brow_go hb] at h
   obtain ⟨hS1, ⟨e1, he1⟩, hc1⟩ := bstep_cl hok hS hx (by omega) hb
   have hx1 : n1[i]? = some x := by
    rw [he1, List.getElem?_append_left (List.getElem?_eq_some_iff.1 hx).1]
    exact hx
   obtain ⟨hS2, ⟨e2, he2⟩, hc2⟩ := brow_cl hok k hS1 hx1 (by omega) h
   refine ⟨hS2, ⟨e1 ++ e2, by rw [he2, he1, List.append_assoc]⟩, fun t' h1 h2 => ?_⟩
   by_cases he : t' = t
   ·subst he
    rw [he2]
    exact hc1.app
   ·exact hc2 t' (by omega) (by omega)
theorem bfs_cl {l : Lit} (hok : okLit l = true) : ∀ (f : Nat) {ns : List Nd} {i : Nat}, Srch l ns -> 30001 <= f + i -> (∀ j x, j < i -> ns[j]? = some x -> ∀ t, t < l.tn -> ClN l ns x t) -> bfs l f ns i = .free ->
  ∃ ns', Srch l ns' /\ ∀ x ∈ ns', ∀ t, t < l.tn -> ClN l ns' x t := by
 have fin : ∀ {ns : List Nd} {i : Nat}, Srch l ns -> ns.length <= i -> (∀ j x, j < i -> ns[j]? = some x -> ∀ t, t < l.tn -> ClN l ns x t) -> ∃ ns', Srch l ns' /\ ∀ x ∈ ns', ∀ t, t < l.tn -> ClN l ns' x t := by
  intro ns i hS hi hc
  refine ⟨ns, hS, fun x hx t ht => ?_⟩
  obtain ⟨j, hj⟩ := List.mem_iff_getElem?.1 hx
  exact hc j x (by have := (List.getElem?_eq_some_iff.1 hj).1; omega) hj t ht
 intro f
 induction f with
 | zero => exact fun hS hf hc h => fin hS (by have := hS.le; omega) hc
 | succ f ih =>
  intro ns i hS hf hc h
  cases hx : ns[i]? with
  | none => exact fin hS (List.getElem?_eq_none_iff.1 hx) hc
  | some x =>
   cases hb : brow l x l.tn ns 0 with
   | stop a =>
    rw [bfs_stop hx hb] at h
    subst h
    exfalso
    have : ∀ (k : Nat) (ns : List Nd) (t : Nat), brow l x k ns t ≠ .stop .free := by
     intro k
     induction k with
     | zero => intro ns t h; cases h
     | succ k ih2 =>
      intro ns t h
      cases hs : bstep l ns x t with
      | go n1 => rw [brow_go hs] at h; exact ih2 _ _ h
      | stop b =>
       rw [brow_stop hs] at h
       injection h with h
       subst h
       unfold bstep at hs
       repeat' split at hs
       all_goals cases hs
    exact this _ _ _ hb
   | go n1 =>
    rw [bfs_go hx hb] at h
    obtain ⟨hS1, ⟨e1, he1⟩, hc1⟩ := brow_cl hok l.tn hS hx (by omega) hb
    refine ih hS1 (by omega) (fun j y hj hy t ht => ?_) h
    have hi := (List.getElem?_eq_some_iff.1 hx).1
    have hy2 : ns[j]? = some y := by rwa [he1, List.getElem?_append_left (by omega)] at hy
    by_cases hji : j = i
    ·subst hji
     rw [hx] at hy2
     injection hy2 with hy2
     subst hy2
     exact hc1 t (by omega) (by omega)
    ·rw [he1]
     exact (hc j y (by omega) hy2 t ht).app
theorem free_cl {l : Lit} (hok : okLit l = true) (hl : l.ws.length = l.wn) (h : freeN l = .free) : ∃ ns, Srch l ns /\ ∀ x ∈ ns, ∀ t, t < l.tn -> ClN l ns x t :=
 bfs_cl hok 30001 (ns := [rootN l]) (i := 0) ⟨OkNs.root hl, by simp, fun x hx => by rw [List.mem_singleton] at hx; subst hx; exact ScR.first, by simp⟩ (by omega) (fun j x hj => absurd hj (by omega)) h
end Go.Proofs.YtgjdgapfnfhklaaGreat
namespace Go.Proofs.YtgjdgapfnfhklaaGreat
open Go.RowKit
structure OwnT (x : TS) : Prop where
 m : ∀ u t, x.m u t <= x.m t t
 w : ∀ b t, x.wd b t <= x.m t t
theorem tickM_far (x : TS) (e : Ev) {i : Nat} (hi : i ≠ e.t) : tickM x e i = x.m e.t i ∨ tickM x e i = x.wd e.a i := by
 have hb : bumpW (x.m e.t) e.t i = x.m e.t i := by unfold bumpW; rw [if_neg hi]
 unfold tickM
 split
 ·unfold maxC
  rw [hb]
  split
  ·exact Or.inr rfl
  ·exact Or.inl rfl
 ·exact Or.inl hb
theorem tickM_own {x : TS} {j : Nat} (h : SmallT x j) (hj : j < 1000000) (ho : OwnT x) (e : Ev) : tickM x e e.t = x.m e.t e.t + 1 := by
 have hb : bumpW (x.m e.t) e.t e.t = x.m e.t e.t + 1 := by rw [bumpW_small h hj, if_pos rfl]
 have hw := ho.w e.a e.t
 unfold tickM
 split
 ·unfold maxC
  rw [hb, if_neg (by omega)]
 ·exact hb
theorem OwnT.tick {x : TS} {j : Nat} (h : SmallT x j) (hj : j < 1000000) (ho : OwnT x) (e : Ev) : OwnT (tickS x e) := by
 have hown := tickM_own h hj ho e
 have hm : ∀ i, tickM x e i <= (tickS x e).m i i := fun i => by
  show _ <= (if i = e.t then tickM x e else x.m i) i
  split
  ·exact Int.le_refl _
  ·rename_i hi
   rcases tickM_far x e hi with h9 | h9
   ·rw [h9]; exact ho.m _ _
   ·rw [h9]; exact ho.w _ _
 have hg : ∀ i, x.m i i <= (tickS x e).m i i := fun i => by
  show _ <= (if i = e.t then tickM x e else x.m i) i
  split
  ·rename_i hi
   subst hi
   omega
  ·exact Int.le_refl _
 refine ⟨fun u t => ?_, fun b t => ?_⟩
 ·show (if u = e.t then tickM x e else x.m u) t <= _
  split
  ·exact hm t
  ·exact Int.le_trans (ho.m u t) (hg t)
 ·show (if e.k = 3 /\ e.wr = true /\ b = e.a then tickM x e else x.wd b) t <= _
  split
  ·exact hm t
  ·exact Int.le_trans (ho.w b t) (hg t)
theorem tsAt_own (es : List Ev) : ∀ j, j <= es.length -> j <= 1000000 -> OwnT (tsAt es j)
 | 0, _, _ => ⟨fun _ _ => Int.le_refl _, fun _ _ => Int.le_refl _⟩
 | j + 1, h, h2 => by
  obtain ⟨e, he⟩ := at_lt (show j < es.length by omega)
  rw [tsAt_next he]
  exact (tsAt_own es j (by omega) (by omega)).tick (tsAt_small es j (by omega) (by omega)) (by omega) e
structure Sim (l : Lit) (x : Nd) (B : BS) : Prop where
 rs : B.S.rs = x.S.rs
 ps : B.S.ps = x.S.ps
 wl : B.S.ws.length = l.wn
 ql : B.q.length = l.tn
 wd1 : ∀ t a v, lastQ (B.b t) a = some v -> x.S.w a = v
 wd0 : ∀ a, (∀ t, lastQ (B.b t) a = none) -> x.S.w a = B.S.w a
 own : ∀ t u a v z, lastQ (B.b t) a = some v -> lastQ (B.b u) a = some z -> t = u
 num : ∀ t a v, lastQ (B.b t) a = some v -> (t < l.tn /\ a < l.wn) /\ (∀ u, u ≠ t -> (xAt x.es).m u t < lastE x.es 2 a t) /\ ∀ b, (xAt x.es).wd b t < lastE x.es 2 a t
section
variable {l : Lit} {x y : Nd} {B B' : BS} {t : Nat} {e : Ev} {i : Ins}
theorem Sim.eqk (h : Sim l x B) (he : EqK x y) : Sim l y B := by
 have hx := he.x
 have h2 := he.la 2 (Or.inr (Or.inl rfl))
 refine ⟨h.rs.trans (by rw [he.s]), h.ps.trans (by rw [he.s]), h.wl, h.ql, fun t a v h9 => by rw [<- he.s]; exact h.wd1 t a v h9, fun a h9 => by rw [<- he.s]; exact h.wd0 a h9, h.own, fun t a v h9 => ?_⟩
 obtain ⟨n0, n1, n2⟩ := h.num t a v h9
 rw [hx] at n1 n2
 rw [h2] at n1 n2
 exact ⟨n0, n1, n2⟩
theorem Sim.out {o : Nat} {u : Tn} (h : Sim l x B) (hu : u.out = true) (hB : turnB l o B u = some B') : Sim l x B' := by
 unfold turnB at hB
 split at hB
 case isFalse => cases hB
 rename_i ht
 (try rw [if_pos hu] at hB)
 generalize hT : u.t.toNat = T at hB
 have hTn : T < l.tn := by omega
 cases hq : outQ o u.a (B.b T) with
 | none => rw [hq] at hB; cases hB
 | some z =>
  obtain ⟨p, r⟩ := z
  rw [hq] at hB
  have hB : some (⟨⟨B.S.ws.set p.1 p.2, B.S.rs, B.S.ps⟩, B.q.set T r⟩ : BS) = some B' := hB
  injection hB with hB
  subst hB
  have hb := fun i S => b_set (B := B) r (show T < B.q.length by rw [h.ql]; exact hTn) i S
  have hl := fun c => outQ_last hq c
  have back : ∀ i c v S, lastQ (BS.b ⟨S, B.q.set T r⟩ i) c = some v -> lastQ (B.b i) c = some v := by
   intro i c v S h9
   rw [hb] at h9
   split at h9
   ·rename_i hi
    subst hi
    by_cases hc : c = p.1
    ·subst hc
     exact (hl p.1).2.2 v h9
    ·rw [<- (hl c).1 hc]
     exact h9
   ·exact h9
  refine ⟨h.rs, h.ps, by rw [List.length_set]; exact h.wl, by rw [List.length_set]; exact h.ql, fun i a v h9 => h.wd1 i a v (back i a v _ h9), fun a h9 => ?_, fun i j a v z h8 h9 => h.own i j a v z (back i a v _ h8) (back j a z _ h9), fun i a v h9 => h.num i a v (back i a v _ h9)⟩
  have hrT := h9 T
  rw [hb, if_pos rfl] at hrT
  show x.S.w a = (B.S.ws.set p.1 p.2).getD a 0
  by_cases ha : a = p.1
  ·subst ha
   have h8 := (hl p.1).2.1 hrT
   have hr := (h.num T p.1 p.2 h8).1.2
   rw [lget_set (by rw [h.wl]; exact hr), if_pos rfl]
   exact h.wd1 T p.1 p.2 h8
  ·have h8 : ∀ i, lastQ (B.b i) a = none := fun i => by
    have := h9 i
    rw [hb] at this
    split at this
    ·rename_i hi
     subst hi
     rw [<- (hl a).1 ha]
     exact this
    ·exact this
   rw [h.wd0 a h8]
   show B.S.ws.getD a 0 = _
   by_cases hlt : p.1 < B.S.ws.length
   ·rw [lget_set hlt, if_neg ha]
   ·rw [List.set_eq_of_length_le (by omega)]
theorem nolate (hx : OkN l x) (hok : okLit l = true) (hl : x.es.length < 1000000) (he : evOf l x.S (tnB t) = some e) (hr : raceN (kidN l x t) = false) : ∀ u, u < l.tn -> u ≠ e.t -> ¬ tickM (xAt x.es) e u < lastE x.es 2 e.a u := by
 intro u hu hne h9
 rw [raceN_some hx hok he hl] at hr
 have : foundB (xAt x.es) (lastE x.es) e 4 = true := by
  refine (foundB_iff _ _ _ 4).2 ⟨u, by have := okLit_num hok; omega, hne, ?_⟩
  unfold lateB
  split
  ·simp [h9]
  ·split
   ·simp [h9]
   ·simp [h9]
 rw [hr] at this
 cases this
theorem Sim.word (h : Sim l x B) (hn : ∀ u, u < l.tn -> u ≠ e.t -> ¬ tickM (xAt x.es) e u < lastE x.es 2 e.a u) : ∀ u, u ≠ e.t -> lastQ (B.b u) e.a = none := by
 intro u hu
 cases h9 : lastQ (B.b u) e.a with
 | none => rfl
 | some v =>
  obtain ⟨⟨n0, _⟩, n1, n2⟩ := h.num u e.a v h9
  refine absurd ?_ (hn u n0 hu)
  rcases tickM_far (xAt x.es) e hu with h8 | h8
  ·rw [h8]; exact n1 e.t (Ne.symm hu)
  ·rw [h8]; exact n2 e.a
theorem Sim.see (h : Sim l x B) (hn : ∀ u, u ≠ t -> lastQ (B.b u) i.addr.toNat = none) : x.S.w i.addr.toNat = B.see t i.addr.toNat := by
 unfold BS.see
 cases h9 : lastQ (B.b t) i.addr.toNat with
 | some v => exact h.wd1 t _ v h9
 | none =>
  refine h.wd0 _ fun u => ?_
  by_cases hu : u = t
  ·subst hu; exact h9
  ·exact hn u hu
theorem Sim.numF (h : Sim l x B) {u a : Nat} {v : Int} (h9 : lastQ (B.b u) a = some v) (hu : u ≠ e.t) :
  (u < l.tn /\ a < l.wn) /\ (∀ i, i ≠ u -> (xAt (x.es ++ [e])).m i u < lastE (x.es ++ [e]) 2 a u) /\ ∀ b, (xAt (x.es ++ [e])).wd b u < lastE (x.es ++ [e]) 2 a u := by
 obtain ⟨n0, n1, n2⟩ := h.num u a v h9
 rw [xAt_snoc, lastE_snoc, if_neg (fun h8 => hu h8.2.2)]
 have ht : tickM (xAt x.es) e u < lastE x.es 2 a u := by
  rcases tickM_far (xAt x.es) e hu with h8 | h8
  ·rw [h8]; exact n1 e.t (Ne.symm hu)
  ·rw [h8]; exact n2 e.a
 refine ⟨n0, fun i hi => ?_, fun b => ?_⟩
 ·show (if i = e.t then tickM (xAt x.es) e else (xAt x.es).m i) u < _
  split
  ·exact ht
  ·exact n1 i hi
 ·show (if e.k = 3 /\ e.wr = true /\ b = e.a then tickM (xAt x.es) e else (xAt x.es).wd b) u < _
  split
  ·exact ht
  ·exact n2 b
theorem Sim.numO (h : Sim l x B) {a : Nat} {v : Int} (h9 : lastQ (B.b e.t) a = some v) (hk : e.k ≠ 3) (hh : ¬ (hitK 2 e = true /\ a = e.a)) :
  (e.t < l.tn /\ a < l.wn) /\ (∀ i, i ≠ e.t -> (xAt (x.es ++ [e])).m i e.t < lastE (x.es ++ [e]) 2 a e.t) /\ ∀ b, (xAt (x.es ++ [e])).wd b e.t < lastE (x.es ++ [e]) 2 a e.t := by
 obtain ⟨n0, n1, n2⟩ := h.num e.t a v h9
 rw [xAt_snoc, lastE_snoc, if_neg (fun h8 => hh ⟨h8.1, h8.2.1⟩)]
 refine ⟨n0, fun i hi => ?_, fun b => ?_⟩
 ·show (if i = e.t then tickM (xAt x.es) e else (xAt x.es).m i) e.t < _
  rw [if_neg hi]
  exact n1 i hi
 ·show (if e.k = 3 /\ e.wr = true /\ b = e.a then tickM (xAt x.es) e else (xAt x.es).wd b) e.t < _
  rw [if_neg (fun h8 => hk h8.1)]
  exact n2 b
theorem Sim.numN (hl : x.es.length < 1000000) (hk : e.k = 2) :
  (∀ i, i ≠ e.t -> (xAt (x.es ++ [e])).m i e.t < lastE (x.es ++ [e]) 2 e.a e.t) /\ ∀ b, (xAt (x.es ++ [e])).wd b e.t < lastE (x.es ++ [e]) 2 e.a e.t := by
 have ho := tsAt_own x.es x.es.length (Nat.le_refl _) (by omega)
 have hs := tsAt_small x.es x.es.length (Nat.le_refl _) (by omega)
 have ht := tickM_own hs hl ho e
 have ht : tickM (xAt x.es) e e.t = (xAt x.es).m e.t e.t + 1 := ht
 rw [xAt_snoc, lastE_snoc, if_pos ⟨by simp [hitK, hk], rfl, rfl⟩, ht]
 refine ⟨fun i hi => ?_, fun b => ?_⟩
 ·show (if i = e.t then tickM (xAt x.es) e else (xAt x.es).m i) e.t < _
  rw [if_neg hi]
  have : (xAt x.es).m i e.t <= (xAt x.es).m e.t e.t := ho.m i e.t
  omega
 ·show (if e.k = 3 /\ e.wr = true /\ b = e.a then tickM (xAt x.es) e else (xAt x.es).wd b) e.t < _
  rw [if_neg (by omega)]
  have : (xAt x.es).wd b e.t <= (xAt x.es).m e.t e.t := ho.w b e.t
  omega
end
theorem adv_eq {S T : LS} (hr : S.rs = T.rs) (hp : S.ps = T.ps) (t c : Nat) (i : Ins) : advS S t c i = advS T t c i := by
 have h1 : ∀ q, S.r t q = T.r t q := fun q => by unfold LS.r; rw [hr]
 have h2 : S.p t = T.p t := by unfold LS.p; rw [hp]
 unfold advS skipS
 rw [h1, h2, hp]
theorem eff_eq {S T : LS} (hr : S.rs = T.rs) (t : Nat) (i : Ins) (h1 : i.kind ≠ 1) (h2 : i.kind ≠ 2) (h3 : i.kind ≠ 3) : (effS S t i).rs = (effS T t i).rs /\ (effS S t i).ws = S.ws := by
 have h : ∀ q, S.r t q = T.r t q := fun q => by unfold LS.r; rw [hr]
 unfold effS
 rw [if_neg h1, if_neg h2, if_neg h3, if_neg h1, if_neg h2, if_neg h3]
 split
 ·exact ⟨by dsimp only; rw [hr], rfl⟩
 ·split
  ·exact ⟨by dsimp only; rw [hr, h], rfl⟩
  ·exact ⟨hr, rfl⟩
theorem pick_t {l : Lit} {S : LS} {t : Nat} (ht : t < l.tn) : pickS l S (tnB t) = (codeOf l t)[S.p t]? := by
 unfold pickS tnB
 dsimp only
 rw [if_pos ⟨by omega, by omega, rfl⟩]
 rfl
theorem turn_t {l : Lit} {S : LS} {t : Nat} {i : Ins} (h : pickS l S (tnB t) = some i) : turnS l S (tnB t) = nextS S t (codeOf l t).length i := by
 unfold turnS
 rw [h]
 rfl
theorem ev_t {l : Lit} {S : LS} {t : Nat} {i : Ins} (h : pickS l S (tnB t) = some i) : evOf l S (tnB t) = eventS (nextS S t (codeOf l t).length i) t i := by
 unfold evOf
 rw [h, turn_t h]
 rfl
end Go.Proofs.YtgjdgapfnfhklaaGreat
