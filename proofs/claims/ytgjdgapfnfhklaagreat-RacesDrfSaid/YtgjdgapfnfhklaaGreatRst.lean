/-
A state of reclaimref27 in memory: what it holds, and what s
-/
import Derived.Test.YtgjdgapfnfhklaaGreatTick
import Derived.Test.YtgjdgapfnfhklaaGreatZ20
import Derived.Test.YtgjdgapfnfhklaaGreatZ4
import Derived.Test.YtgjdgapfnfhklaaGreatQcp
set_option linter.unusedSimpArgs false
set_option linter.unusedVariables false
namespace Go.Proofs.YtgjdgapfnfhklaaGreat
open Go.RowKit
structure RM where
 h : SH
 gm : Nat
 km : Nat
 ms : List Nat
 gd : Nat
 kd : Nat
 ws : List (Nat × Nat)
 vE : Value
 cs : List (Nat × Nat)
 kc : Nat -> Nat
 Z : Nat -> Prop
abbrev sl1 (n : Nat) (p : Nat × Nat) : Value := .slice (some ⟨p.1, 0, none⟩) n p.2
def mhV (n : Nat) (kc : Nat -> Nat) (l : List Nat) : List Value := l.zipIdx.map fun p => .slice (some ⟨p.1, 0, none⟩) n (kc p.2)
theorem mhV_len (n : Nat) (kc : Nat -> Nat) (l : List Nat) : (mhV n kc l).length = l.length := by simp [mhV]
theorem mhV_get {n : Nat} {kc : Nat -> Nat} {l : List Nat} {i g : Nat} (h : l[i]? = some g) : (mhV n kc l)[i]? = some (.slice (some ⟨g, 0, none⟩) n (kc i)) := by
 unfold mhV
 rw [List.getElem?_map, List.getElem?_zipIdx, h]
 simp
theorem mhV_snoc (n : Nat) (kc : Nat -> Nat) (l : List Nat) (g : Nat) : mhV n kc (l ++ [g]) = mhV n kc l ++ [.slice (some ⟨g, 0, none⟩) n (kc l.length)] := by simp [mhV, List.zipIdx_append]
def whV (n : Nat) (l : List (Nat × Nat)) : List Value := l.map (sl1 n)
def evcV (n : Nat) (es : List Ev) (cs : List (Nat × Nat)) : List Value := (es.zip cs).flatMap fun p => evL p.1 ++ [sl1 n p.2]
def RM.mut (M : RM) : List Nat := M.h.gw :: M.h.gp :: M.ms
abbrev rsL (M : RM) (n nw : Nat) : List Value := stL M.h n nw ++ [.slice (some ⟨M.gm, 0, none⟩) n M.km, .slice (some ⟨M.gd, 0, none⟩) nw M.kd, M.vE]
structure RSB (W : World) (B n nw : Nat) (S : LS) (x : TS) (es : List Ev) (M : RM) : Prop where
 st : StAt W M.h n nw S
 nu : NewS B M.h
 gmB : B <= M.gm
 gdB : B <= M.gd
 mi : Rw W M.gm 22 1 n M.km (mhV n M.kc M.ms)
 mr : ∀ (i g : Nat), M.ms[i]? = some g -> B <= g /\ Rw W g 3 1 n (M.kc i) (ints (clkL n (x.m i)))
 wi : Rw W M.gd 22 1 nw M.kd (whV n M.ws)
 wr : ∀ (a : Nat) (p : Nat × Nat), M.ws[a]? = some p -> p.1 ∉ M.mut /\ Rw W p.1 3 1 n p.2 (ints (clkL n (x.wd a)))
 ev : W.ownsRow B 147 5 M.vE es.length (evcV n es M.cs)
 cl : M.cs.length = es.length
 cr : ∀ (j : Nat) (p : Nat × Nat), M.cs[j]? = some p -> p.1 ∉ M.mut /\ Rw W p.1 3 1 n p.2 (ints (clkL n (ckAt es j)))
 nd : M.mut.Nodup
 gg : M.gm ≠ M.gd
 wB : ∀ (a : Nat) (p : Nat × Nat), M.ws[a]? = some p -> B <= p.1
 cB : ∀ (j : Nat) (p : Nat × Nat), M.cs[j]? = some p -> B <= p.1 ∨ M.Z p.1
theorem own_lowR {w : World} {base base' e size n : Nat} {v : Value} {xs : List Value} (h : w.ownsRow base e size v n xs) (hb : base' <= base) : w.ownsRow base' e size v n xs := ⟨h.1, h.2.imp id fun ⟨g, cap, cur, e1, h1, h2⟩ => ⟨g, cap, cur, e1, Nat.le_trans hb h1, h2⟩⟩
theorem Rw.nt {W : World} {g g' sz sz' n n' k k' : Nat} {t t' : TypeId} {xs xs' : List Value} (h : Rw W g t sz n k xs) (h' : Rw W g' t' sz' n' k' xs') (hne : t ≠ t') : g ≠ g' := by
 obtain ⟨_, cs, h1, _⟩ := h
 obtain ⟨_, cs', h2, _⟩ := h'
 rintro rfl
 unfold Blk at h1 h2
 rw [h1] at h2
 injection h2 with h2
 injection h2 with _ h3
 exact hne h3
theorem Rw.nb {W : World} {g g' sz n k : Nat} {t t' : TypeId} {xs cs : List Value} (h : Rw W g t sz n k xs) (h' : Blk W g' t' cs) (hne : t ≠ t') : g ≠ g' := by
 obtain ⟨_, cs', h1, _⟩ := h
 rintro rfl
 unfold Blk at h1 h'
 rw [h1] at h'
 injection h' with h'
 injection h' with _ h3
 exact hne h3
theorem Rw.gb {W W' : World} {g sz n k : Nat} {t : TypeId} {xs : List Value} {row : Option Nat} (h : Rw W g t sz n k xs) (hg : W.grownBy W' row) (hne : some g ≠ row) : Rw W' g t sz n k xs := h.kept (hg.block g h.lt hne)
theorem ms_inj {l : List Nat} {a b : Nat} (h : (a :: b :: l).Nodup) {i j g : Nat} (hi : l[i]? = some g) (hj : l[j]? = some g) : i = j := by
 have h2 := (List.nodup_cons.1 (List.nodup_cons.1 h).2).2
 obtain ⟨h3, e3⟩ := List.getElem?_eq_some_iff.1 hi
 obtain ⟨h4, e4⟩ := List.getElem?_eq_some_iff.1 hj
 have hp := List.pairwise_iff_getElem.1 h2
 rcases Nat.lt_trichotomy i j with h9 | h9 | h9
 ·exact absurd (e3.trans e4.symm) (hp i j h3 h4 h9)
 ·exact h9
 ·exact absurd (e4.trans e3.symm) (hp j i h4 h3 h9)
section
variable {W W' : World} {B n nw : Nat} {S : LS} {x : TS} {es : List Ev} {M : RM}
theorem RSB.ml (h : RSB W B n nw S x es M) : M.ms.length = n := by have := h.mi.1; simpa [mhV_len] using this
theorem RSB.wl (h : RSB W B n nw S x es M) : M.ws.length = nw := by have := h.wi.1; simpa [whV] using this
theorem RSB.bs (h : RSB W B n nw S x es M) : B <= W.heap.size := by have := h.gmB; have := h.mi.lt; omega
theorem RSB.keepF (h : RSB W B n nw S x es M) (hk : ∀ g, g < W.heap.size -> (∀ cs, ¬ Blk W g 80 cs) -> W'.heap[g]? = W.heap[g]?) : RSB W' B n nw S x es M := by
 have k : ∀ {g sz m k : Nat} {t : TypeId} {xs : List Value}, Rw W g t sz m k xs -> t ≠ 80 -> Rw W' g t sz m k xs := fun hr hne => hr.kept (hk _ hr.lt (fun cs hb => hr.nb hb hne rfl))
 exact {
  st := ⟨k h.st.w (by decide), k h.st.r (by decide), k h.st.p (by decide), k h.st.b (by decide), h.st.ne⟩
  nu := h.nu
  gmB := h.gmB
  gdB := h.gdB
  mi := k h.mi (by decide)
  mr := fun i g hg => ⟨(h.mr i g hg).1, k (h.mr i g hg).2 (by decide)⟩
  wi := k h.wi (by decide)
  wr := fun i g hg => ⟨(h.wr i g hg).1, k (h.wr i g hg).2 (by decide)⟩
  ev := by
   obtain ⟨h1, h2⟩ := h.ev
   refine ⟨h1, h2.imp id fun ⟨g, cap, cur, hv, hB, hg, h3⟩ => ⟨g, cap, cur, hv, hB, ?_, h3⟩⟩
   rw [hk g (Array.getElem?_eq_some_iff.1 hg).1 (fun cs hb => by
    unfold Blk at hb
    rw [hg] at hb
    injection hb with hb
    injection hb with _ h9
    exact absurd h9 (by decide))]
   exact hg
  cl := h.cl
  cr := fun i g hg => ⟨(h.cr i g hg).1, k (h.cr i g hg).2 (by decide)⟩
  nd := h.nd
  gg := h.gg
  wB := h.wB
  cB := h.cB }
theorem RSB.on (h : RSB W B n nw S x es M) (hb : Below W.heap.size W W') : RSB W' B n nw S x es M := h.keepF fun g hg _ => hb.block g hg
theorem RSB.head (h : RSB W B n nw S x es M) {gs : Nat} {cs : List Value} (hb : Blk W gs 80 cs) (i : Nat) (v : Value) : RSB (W.setCell ⟨gs, i, none⟩ v) B n nw S x es M :=
 h.keepF fun g _ hn => Below.heap_setCell W ⟨gs, i, none⟩ v g (fun e => hn cs (e ▸ hb))
theorem RSB.low (h : RSB W B n nw S x es M) {B' : Nat} (hB : B' <= B) : RSB W B' n nw S x es M :=
 ⟨h.st, ⟨Nat.le_trans hB h.nu.1, Nat.le_trans hB h.nu.2.1, Nat.le_trans hB h.nu.2.2.1, Nat.le_trans hB h.nu.2.2.2⟩, Nat.le_trans hB h.gmB, Nat.le_trans hB h.gdB, h.mi, fun i g hg => ⟨Nat.le_trans hB (h.mr i g hg).1, (h.mr i g hg).2⟩, h.wi, h.wr, own_lowR h.ev hB, h.cl, h.cr, h.nd, h.gg, fun a p hp => Nat.le_trans hB (h.wB a p hp), fun j p hp => (h.cB j p hp).imp (Nat.le_trans hB) id⟩
theorem mut_ms {M : RM} {i g : Nat} (h : M.ms[i]? = some g) : g ∈ M.mut := by
 unfold RM.mut
 simp [List.mem_of_getElem? h]
theorem RM.mw {M : RM} : M.h.gw ∈ M.mut := by unfold RM.mut; simp
theorem RM.mp {M : RM} : M.h.gp ∈ M.mut := by unfold RM.mut; simp
theorem mut_of {M : RM} {g : Nat} (h : g ∈ M.mut) : g = M.h.gw ∨ g = M.h.gp ∨ ∃ i : Nat, M.ms[i]? = some g := by
 unfold RM.mut at h
 simp only [List.mem_cons] at h
 rcases h with h | h | h
 ·exact Or.inl h
 ·exact Or.inr (Or.inl h)
 ·obtain ⟨i, hi, he⟩ := List.mem_iff_getElem.1 h
  exact Or.inr (Or.inr ⟨i, by rw [List.getElem?_eq_getElem hi, he]⟩)
theorem RSB.st_ (h : RSB W B n nw S x es M) {S' : LS} (hf : Fr (SF M.h) W W') (hs : StAt W' M.h n nw S') : RSB W' B n nw S' x es M := by
 have k1 : ∀ {g sz m k : Nat} {t : TypeId} {xs : List Value}, Rw W g t sz m k xs -> t ≠ 3 -> t ≠ 96 -> Rw W' g t sz m k xs := fun hr h1 h2 =>
  hr.kept (hf.block _ hr.lt (fun h9 => h9.elim (fun e => hr.nt h.st.w h1 e) (fun h8 => h8.elim (fun e => hr.nt h.st.r h2 e) (fun e => hr.nt h.st.p h1 e))))
 have k2 : ∀ {g m k : Nat} {xs : List Value}, Rw W g 3 1 m k xs -> g ≠ M.h.gw -> g ≠ M.h.gp -> Rw W' g 3 1 m k xs := fun hr h1 h2 =>
  hr.kept (hf.block _ hr.lt (fun h9 => h9.elim (fun e => h1 e) (fun h8 => h8.elim (fun e => hr.nt h.st.r (by decide) e) (fun e => h2 e))))
 have hnd := h.nd
 unfold RM.mut at hnd
 obtain ⟨n1, n2⟩ := List.nodup_cons.1 hnd
 obtain ⟨n3, n4⟩ := List.nodup_cons.1 n2
 have hms : ∀ (i g : Nat), M.ms[i]? = some g -> g ≠ M.h.gw /\ g ≠ M.h.gp := fun i g hg => ⟨fun e => n1 (by simp [<- e, List.mem_of_getElem? hg]), fun e => n3 (by simp [<- e, List.mem_of_getElem? hg])⟩
 exact {
  st := hs
  nu := h.nu
  gmB := h.gmB
  gdB := h.gdB
  mi := k1 h.mi (by decide) (by decide)
  mr := fun i g hg => ⟨(h.mr i g hg).1, k2 (h.mr i g hg).2 (hms i g hg).1 (hms i g hg).2⟩
  wi := k1 h.wi (by decide) (by decide)
  wr := fun i p hp => ⟨(h.wr i p hp).1, k2 (h.wr i p hp).2 (fun e => (h.wr i p hp).1 (e ▸ RM.mw)) (fun e => (h.wr i p hp).1 (e ▸ RM.mp))⟩
  ev := by
   obtain ⟨h1, h2⟩ := h.ev
   refine ⟨h1, h2.imp id fun ⟨g, cap, cur, hv, hB, hg, h3⟩ => ⟨g, cap, cur, hv, hB, ?_, h3⟩⟩
   have hE : Blk W g 147 cur.toList := by unfold Blk; rw [hg]
   rw [hf.block g (Array.getElem?_eq_some_iff.1 hg).1 (fun h9 => h9.elim (fun e => h.st.w.nb hE (by decide) e.symm) (fun h8 => h8.elim (fun e => h.st.r.nb hE (by decide) e.symm) (fun e => h.st.p.nb hE (by decide) e.symm)))]
   exact hg
  cl := h.cl
  cr := fun i p hp => ⟨(h.cr i p hp).1, k2 (h.cr i p hp).2 (fun e => (h.cr i p hp).1 (e ▸ RM.mw)) (fun e => (h.cr i p hp).1 (e ▸ RM.mp))⟩
  nd := h.nd
  gg := h.gg
  wB := h.wB
  cB := h.cB }
theorem RSB.mine (h : RSB W B n nw S x es M) {t g : Nat} {F : Clk} (hg : M.ms[t]? = some g) (hk : W.grownBy W' (some g)) (hB : Rw W' g 3 1 n (M.kc t) (ints (clkL n F))) : RSB W' B n nw S (x.own t F) es M := by
 have hgr := (h.mr t g hg).2
 have k1 : ∀ {q sz m k : Nat} {t : TypeId} {xs : List Value}, Rw W q t sz m k xs -> t ≠ 3 -> Rw W' q t sz m k xs := fun hr h1 => hr.gb hk (by intro e; injection e with e; exact hr.nt hgr h1 e)
 have k2 : ∀ {q m k : Nat} {xs : List Value}, Rw W q 3 1 m k xs -> q ∉ M.mut -> Rw W' q 3 1 m k xs := fun hr h1 => hr.gb hk (by intro e; injection e with e; exact h1 (e ▸ mut_ms hg))
 have hnd := h.nd
 unfold RM.mut at hnd
 obtain ⟨n1, n2⟩ := List.nodup_cons.1 hnd
 obtain ⟨n3, n4⟩ := List.nodup_cons.1 n2
 have hgm := List.mem_of_getElem? hg
 have hw : some M.h.gw ≠ some g := by intro e; injection e with e; exact n1 (by simp [e, hgm])
 have hp : some M.h.gp ≠ some g := by intro e; injection e with e; exact n3 (by simp [e, hgm])
 exact {
  st := ⟨h.st.w.gb hk hw, k1 h.st.r (by decide), h.st.p.gb hk hp, k1 h.st.b (by decide), h.st.ne⟩
  nu := h.nu
  gmB := h.gmB
  gdB := h.gdB
  mi := k1 h.mi (by decide)
  mr := fun i q hq => ⟨(h.mr i q hq).1, by
   by_cases hi : i = t
   ·subst hi
    rw [hg] at hq
    injection hq with hq
    subst hq
    simp only [TS.own, if_pos]
    exact hB
   ·simp only [TS.own, if_neg hi]
    exact (h.mr i q hq).2.gb hk (by intro e; injection e with e; subst e; exact hi (ms_inj h.nd hq hg))⟩
  wi := k1 h.wi (by decide)
  wr := fun i p hp => ⟨(h.wr i p hp).1, k2 (h.wr i p hp).2 (h.wr i p hp).1⟩
  ev := h.ev.kept hk (by
   cases hv : M.vE.ownBlock with
   | none => exact Or.inl rfl
   | some r => exact Or.inr (by rw [<- hv]; exact (own_nr h.ev hgr (by decide)).symm))
  cl := h.cl
  cr := fun i p hp => ⟨(h.cr i p hp).1, k2 (h.cr i p hp).2 (h.cr i p hp).1⟩
  nd := h.nd
  gg := h.gg
  wB := h.wB
  cB := h.cB }
theorem RSB.word (h : RSB W B n nw S x es M) {a g k : Nat} {F : Clk} (hg : Rw W g 3 1 n k (ints (clkL n F))) (hm : g ∉ M.mut) (hgB : B <= g) (ha : a < nw) :
  RSB (W.setCell ⟨M.gd, a, none⟩ (.slice (some ⟨g, 0, none⟩) n k)) B n nw S ⟨x.m, fun i => if i = a then F else x.wd i⟩ es { M with ws := M.ws.set a (g, k) } := by
 have k1 : ∀ {q sz m k' : Nat} {t : TypeId} {xs : List Value}, Rw W q t sz m k' xs -> t ≠ 22 -> Rw (W.setCell ⟨M.gd, a, none⟩ (.slice (some ⟨g, 0, none⟩) n k)) q t sz m k' xs := fun hr h1 => hr.far (hr.nt h.wi h1) _
 exact {
  st := ⟨k1 h.st.w (by decide), k1 h.st.r (by decide), k1 h.st.p (by decide), k1 h.st.b (by decide), h.st.ne⟩
  nu := h.nu
  gmB := h.gmB
  gdB := h.gdB
  mi := h.mi.far h.gg _
  mr := fun i q hq => ⟨(h.mr i q hq).1, k1 (h.mr i q hq).2 (by decide)⟩
  wi := by
   have h1 := h.wi.set_ a (.slice (some ⟨g, 0, none⟩) n k)
   unfold whV at h1 ⊢
   rw [List.map_set]
   exact h1
  wr := fun i p hp => by
   have hp' : (M.ws.set a (g, k))[i]? = some p := hp
   by_cases hi : i = a
   ·subst hi
    rw [List.getElem?_set_self (by rw [h.wl]; exact ha)] at hp'
    injection hp' with hp'
    subst hp'
    refine ⟨hm, ?_⟩
    simp only [if_pos]
    exact k1 hg (by decide)
   ·rw [List.getElem?_set_ne (fun e => hi e.symm)] at hp'
    refine ⟨(h.wr i p hp').1, ?_⟩
    simp only [if_neg hi]
    exact k1 (h.wr i p hp').2 (by decide)
  ev := h.ev.kept (gb_setCell (World.grownBy.refl W (some M.gd)) a (.slice (some ⟨g, 0, none⟩) n k)) (by
   cases hv : M.vE.ownBlock with
   | none => exact Or.inl rfl
   | some r => exact Or.inr (by rw [<- hv]; exact (own_nr h.ev h.wi (by decide)).symm))
  cl := h.cl
  cr := fun i p hp => ⟨(h.cr i p hp).1, k1 (h.cr i p hp).2 (by decide)⟩
  nd := h.nd
  gg := h.gg
  wB := fun i p hp => by
   have hp' : (M.ws.set a (g, k))[i]? = some p := hp
   by_cases hi : i = a
   ·subst hi
    rw [List.getElem?_set_self (by rw [h.wl]; exact ha)] at hp'
    injection hp' with hp'
    subst hp'
    exact hgB
   ·rw [List.getElem?_set_ne (fun e => hi e.symm)] at hp'
    exact h.wB i p hp'
  cB := h.cB }
theorem evcV_snoc {n : Nat} {es : List Ev} {cs : List (Nat × Nat)} (h : cs.length = es.length) (e : Ev) (p : Nat × Nat) : evcV n (es ++ [e]) (cs ++ [p]) = evcV n es cs ++ (evL e ++ [sl1 n p]) := by
 unfold evcV
 rw [List.zip_append h.symm]
 simp
theorem RSB.event (h : RSB W B n nw S x es M) {g k : Nat} {e : Ev} {v' : Value} {x' : TS} (hx : x = x') (hg : Rw W' g 3 1 n k (ints (clkL n (ckAt (es ++ [e]) es.length)))) (hm : g ∉ M.mut) (hgB : B <= g) (hk : W.grownBy W' M.vE.ownBlock)
  (ho : W'.ownsRow B 147 5 v' (es.length + 1) (evcV n es M.cs ++ (evL e ++ [sl1 n (g, k)]))) : RSB W' B n nw S x' (es ++ [e]) { M with vE := v', cs := M.cs ++ [(g, k)] } := by
 subst hx
 have k1 : ∀ {q sz m k' : Nat} {t : TypeId} {xs : List Value}, Rw W q t sz m k' xs -> 147 ≠ t -> Rw W' q t sz m k' xs := fun hr h1 => hr.gb hk (own_nr h.ev hr h1)
 exact {
  st := ⟨k1 h.st.w (by decide), k1 h.st.r (by decide), k1 h.st.p (by decide), k1 h.st.b (by decide), h.st.ne⟩
  nu := h.nu
  gmB := h.gmB
  gdB := h.gdB
  mi := k1 h.mi (by decide)
  mr := fun i q hq => ⟨(h.mr i q hq).1, k1 (h.mr i q hq).2 (by decide)⟩
  wi := k1 h.wi (by decide)
  wr := fun i p hp => ⟨(h.wr i p hp).1, k1 (h.wr i p hp).2 (by decide)⟩
  ev := by
   rw [evcV_snoc h.cl, List.length_append]
   exact ho
  cl := by simp [h.cl]
  cr := fun i p hp => by
   have hp' : (M.cs ++ [(g, k)])[i]? = some p := hp
   by_cases hi : i < M.cs.length
   ·rw [List.getElem?_append_left hi] at hp'
    refine ⟨(h.cr i p hp').1, ?_⟩
    rw [ckAt_app es [e] i (by have := h.cl; omega)]
    exact k1 (h.cr i p hp').2 (by decide)
   ·have hi2 : i = M.cs.length := by
     have := (List.getElem?_eq_some_iff.1 hp').1
     simp at this
     omega
    subst hi2
    rw [List.getElem?_append_right (Nat.le_refl _), Nat.sub_self] at hp'
    simp at hp'
    subst hp'
    refine ⟨hm, ?_⟩
    rw [h.cl]
    exact hg
  nd := h.nd
  gg := h.gg
  wB := h.wB
  cB := fun i p hp => by
   have hp' : (M.cs ++ [(g, k)])[i]? = some p := hp
   by_cases hi : i < M.cs.length
   ·rw [List.getElem?_append_left hi] at hp'
    exact h.cB i p hp'
   ·have hi2 : i = M.cs.length := by
     have := (List.getElem?_eq_some_iff.1 hp').1
     simp at this
     omega
    subst hi2
    rw [List.getElem?_append_right (Nat.le_refl _), Nat.sub_self] at hp'
    simp at hp'
    subst hp'
    exact Or.inl hgB }
theorem RSB.fresh (h : RSB W B n nw S x es M) {g : Nat} (hg : W.heap.size <= g) : g ∉ M.mut := by
 intro hm
 rcases mut_of hm with e | e | ⟨i, hi⟩
 ·have := h.st.w.lt; omega
 ·have := h.st.p.lt; omega
 ·have := (h.mr i g hi).2.lt; omega
end
def xAt (es : List Ev) : TS := tsAt es es.length
theorem xAt_snoc (es : List Ev) (e : Ev) : xAt (es ++ [e]) = tickS (xAt es) e := by
 unfold xAt
 rw [List.length_append, List.length_singleton, tsAt_next (e := e) (by simp), tsAt_app es [e] _ (Nat.le_refl _)]
theorem ckAt_snoc (es : List Ev) (e : Ev) : ckAt (es ++ [e]) es.length = tickM (xAt es) e := by
 rw [ckAt_at (e := e) (by simp), tsAt_app es [e] _ (Nat.le_refl _)]
 rfl
theorem own_m (x : TS) (t : Nat) (F : Clk) : (x.own t F).m t = F := by simp [TS.own]
theorem tickS_m (x : TS) (e : Ev) : (tickS x e).m e.t = tickM x e := by simp [tickS]
theorem tickM_pl {x : TS} {e : Ev} (h : e.k ≠ 3) : tickM x e = bumpW (x.m e.t) e.t := by unfold tickM; rw [if_neg h]
theorem tickM_sw {x : TS} {e : Ev} (h : e.k = 3) : tickM x e = maxC (bumpW (x.m e.t) e.t) (x.wd e.a) := by unfold tickM; rw [if_pos h]
theorem tick_pl {x : TS} {e : Ev} (h : e.k ≠ 3) : x.own e.t (bumpW (x.m e.t) e.t) = tickS x e := by
 unfold tickS TS.own
 rw [tickM_pl h]
 congr 1
 funext i
 rw [if_neg (fun h9 => h h9.1)]
theorem tick_sw0 {x : TS} {e : Ev} (hw : e.wr = false) : x.own e.t (tickM x e) = tickS x e := by
 unfold tickS TS.own
 congr 1
 funext i
 rw [if_neg (fun h9 => by rw [hw] at h9; exact absurd h9.2.1 (by decide))]
theorem tick_sw1 {x : TS} {e : Ev} (h : e.k = 3) (hw : e.wr = true) : (⟨(x.own e.t (tickM x e)).m, fun i => if i = e.a then tickM x e else (x.own e.t (tickM x e)).wd i⟩ : TS) = tickS x e := by
 unfold tickS TS.own
 dsimp only
 congr 1
 funext i
 by_cases hi : i = e.a
 ·rw [if_pos hi, if_pos ⟨h, hw, hi⟩]
 ·rw [if_neg hi, if_neg (fun h9 => hi h9.2.2)]
theorem bumpW_set (T t : Nat) (f : Clk) : (ints (clkL T f)).set t (.int .i64 (IntKind.i64.wrap (f t + 1))) = ints (clkL T (bumpW f t)) := by
 rw [clkL_set]
 congr 1
 refine clkL_congr fun k _ => ?_
 unfold bumpW
 by_cases hk : k = t
 ·subst hk; simp
 ·simp [hk]
theorem bumpW_set2 (T t : Nat) (f : Clk) : (ints (clkL T f)).set t (.int .i64 (wrap64 (f t + 1))) = ints (clkL T (bumpW f t)) := by rw [<- w64]; exact bumpW_set T t f
theorem evc_one (a b c : Int) (d : Bool) (A : Option Addr) (n k : Nat) : ∀ u ∈ [Value.int .i64 a, .int .i64 b, .int .i64 c, .bool d, .slice A n k], u.oneCell' = true := by
 intro u hu
 simp at hu
 rcases hu with rfl | rfl | rfl | rfl | rfl <;> rfl
end Go.Proofs.YtgjdgapfnfhklaaGreat
