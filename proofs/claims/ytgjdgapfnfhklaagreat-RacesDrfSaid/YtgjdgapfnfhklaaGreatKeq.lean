/-
Two nodes are told apart by the program's picture just where
-/
import Derived.Test.YtgjdgapfnfhklaaGreatZ10
import Derived.Test.YtgjdgapfnfhklaaGreatNrr
set_option linter.unusedSimpArgs false
set_option linter.unusedVariables false
namespace Go.Proofs.YtgjdgapfnfhklaaGreat
open Go.RowKit
theorem if_iff {α : Type} {p q : Prop} [Decidable p] [Decidable q] (h : p ↔ q) (a b : α) : (if p then a else b) = if q then a else b := by
 by_cases hp : p
 ·rw [if_pos hp, if_pos (h.1 hp)]
 ·rw [if_neg hp, if_neg (fun hq => hp (h.2 hq))]
theorem ints_inj {a b : List Int} (h : ints a = ints b) : a = b := by
 unfold ints at h
 exact (List.map_inj_right (fun x y h => by injection h)).1 h
theorem natsI_inj {a b : List Nat} (h : natsI a = natsI b) : a = b := by
 unfold natsI at h
 exact (List.map_inj_right (fun x y h => by injection h with _ h; exact Int.ofNat.inj h)).1 h
structure ZT (n nw : Nat) (x : TS) : Prop where
 m : ∀ t i, (n <= t ∨ n <= i) -> x.m t i = 0
 w : ∀ a i, (nw <= a ∨ n <= i) -> x.wd a i = 0
theorem ZT.tickM {n nw : Nat} {x : TS} (h : ZT n nw x) {e : Ev} (ht : e.t < n) {i : Nat} (hi : n <= i) : tickM x e i = 0 := by
 have hb : bumpW (x.m e.t) e.t i = 0 := by
  unfold bumpW
  rw [if_neg (by omega)]
  exact h.m _ _ (Or.inr hi)
 unfold Go.Proofs.YtgjdgapfnfhklaaGreat.tickM
 split
 ·unfold maxC
  rw [hb, h.w _ _ (Or.inr hi)]
  rfl
 ·exact hb
theorem ZT.tick {n nw : Nat} {x : TS} (h : ZT n nw x) {e : Ev} (ht : e.t < n) (ha : e.a < nw) : ZT n nw (tickS x e) := by
 refine ⟨fun t i hi => ?_, fun a i hi => ?_⟩
 ·show (if t = e.t then Go.Proofs.YtgjdgapfnfhklaaGreat.tickM x e else x.m t) i = 0
  split
  ·exact h.tickM ht (by omega)
  ·exact h.m t i hi
 ·show (if e.k = 3 /\ e.wr = true /\ a = e.a then Go.Proofs.YtgjdgapfnfhklaaGreat.tickM x e else x.wd a) i = 0
  split
  ·exact h.tickM ht (by omega)
  ·exact h.w a i hi
theorem tsAt_zt {n nw : Nat} {es : List Ev} (h : ∀ e ∈ es, e.t < n /\ e.a < nw) : ∀ j, ZT n nw (tsAt es j)
 | 0 => ⟨fun _ _ _ => rfl, fun _ _ _ => rfl⟩
 | j + 1 => by
  rw [tsAt]
  split
  ·rename_i e he
   have := h e (List.mem_of_getElem? he)
   exact (tsAt_zt h j).tick this.1 this.2
  ·exact tsAt_zt h j
theorem lastAt_zero {n nw : Nat} {es : List Ev} {kd : Int} (h : ∀ e ∈ es, e.t < n /\ e.a < nw) {a t : Nat} (hat : nw <= a ∨ n <= t) : ∀ j, lastAt es kd j a t = 0
 | 0 => rfl
 | j + 1 => by
  cases he : es[j]? with
  | none =>
   rw [lastAt, he]
   exact lastAt_zero h hat j
  | some e =>
   have := h e (List.mem_of_getElem? he)
   rw [lastAt_next he, if_neg (by omega)]
   exact lastAt_zero h hat j
def KdB (kd : Int) : Prop := kd = 1 ∨ kd = 2 ∨ kd = 3 ∨ kd = 9
theorem KdB.of (q : Nat) (hq : q < 4) : KdB (kdOf q) := by
 unfold kdOf KdB
 split <;> omega
theorem KdB.ex {kd : Int} (h : KdB kd) : ∃ q, q < 4 /\ kdOf q = kd := by
 unfold KdB at h
 rcases h with h | h | h | h
 ·exact ⟨0, by omega, by rw [h]; rfl⟩
 ·exact ⟨1, by omega, by rw [h]; rfl⟩
 ·exact ⟨2, by omega, by rw [h]; rfl⟩
 ·exact ⟨3, by omega, by rw [h]; rfl⟩
structure EqK (x y : Nd) : Prop where
 s : x.S = y.S
 m : ∀ t i, (xAt x.es).m t i = (xAt y.es).m t i
 w : ∀ a i, (xAt x.es).wd a i = (xAt y.es).wd a i
 la : ∀ kd, KdB kd -> ∀ a t, lastE x.es kd a t = lastE y.es kd a t
theorem EqK.x {x y : Nd} (h : EqK x y) : xAt x.es = xAt y.es := by
 have h1 : (xAt x.es).m = (xAt y.es).m := by funext t i; exact h.m t i
 have h2 : (xAt x.es).wd = (xAt y.es).wd := by funext t i; exact h.w t i
 cases hx : xAt x.es
 cases hy : xAt y.es
 rw [hx, hy] at h1 h2
 dsimp only at h1 h2
 rw [h1, h2]
theorem fm_len {f : Nat -> List Int} {q : Nat} (hf : ∀ t, (f t).length = q) (n : Nat) : ((List.range n).flatMap f).length = n * q := by
 induction n with
 | zero => simp
 | succ n ih => rw [List.range_succ, List.flatMap_append, List.length_append, ih]; simp [hf]; rw [Nat.add_mul]; omega
theorem fm_inj {f g : Nat -> List Int} {q : Nat} (hf : ∀ t, (f t).length = q) (hg : ∀ t, (g t).length = q) : ∀ n, (List.range n).flatMap f = (List.range n).flatMap g -> ∀ t, t < n -> f t = g t
 | 0, _, t, ht => absurd ht (by omega)
 | n + 1, h, t, ht => by
  rw [List.range_succ, List.flatMap_append, List.flatMap_append] at h
  have h1 := List.append_inj h (by rw [fm_len hf, fm_len hg])
  by_cases hn : t = n
  ·subst hn
   simpa using h1.2
  ·exact fm_inj hf hg n h1.1 t (by omega)
theorem mr_inj {f g : Nat -> Int} {n : Nat} (h : (List.range n).map f = (List.range n).map g) : ∀ i, i < n -> f i = g i := fun i hi => List.map_inj_left.1 h i (List.mem_range.2 hi)
theorem LS.ext' {l : Lit} {S T : LS} (hS : GoodS l S) (hT : GoodS l T) (hw : S.ws = T.ws) (h : ∀ t, t < l.tn -> (∀ q, q < 4 -> S.r t q = T.r t q) /\ S.p t = T.p t) : S = T := by
 have hr : S.rs = T.rs := by
  apply List.ext_getElem?
  intro c
  by_cases hc : c < l.tn * 4
  ·have h1 := (h (c / 4) (by omega)).1 (c % 4) (by omega)
   have e : c / 4 * 4 + c % 4 = c := by omega
   have h2 := LS.r_at (S := S) (t := c / 4) (q := c % 4) (by rw [hS.r]; omega)
   have h3 := LS.r_at (S := T) (t := c / 4) (q := c % 4) (by rw [hT.r]; omega)
   rw [e] at h2 h3
   rw [h2, h3, h1]
  ·rw [List.getElem?_eq_none (by rw [hS.r]; omega), List.getElem?_eq_none (by rw [hT.r]; omega)]
 have hp : S.ps = T.ps := by
  apply List.ext_getElem?
  intro c
  by_cases hc : c < l.tn
  ·rw [LS.p_at (S := S) (by rw [hS.p]; exact hc), LS.p_at (S := T) (by rw [hT.p]; exact hc), (h c hc).2]
  ·rw [List.getElem?_eq_none (by rw [hS.p]; omega), List.getElem?_eq_none (by rw [hT.p]; omega)]
 cases S
 cases T
 dsimp only at hw hr hp
 rw [hw, hr, hp]
theorem OkN.ev {l : Lit} {x : Nd} (h : OkN l x) : ∀ e ∈ x.es, e.t < l.tn /\ e.a < l.wn := fun e he => h.ok e he
theorem lastK_inj {n nw : Nat} {f g : Nat -> Nat -> Int} (h : lastK n nw f = lastK n nw g) {a t : Nat} (ha : a < nw) (ht : t < n) : f a t = g a t := by
 unfold lastK at h
 have hlt : a * n + t < nw * n := by
  have : (a + 1) * n <= nw * n := Nat.mul_le_mul_right n ha
  rw [Nat.add_mul, Nat.one_mul] at this
  omega
 have h1 := mr_inj h (a * n + t) hlt
 have hn : 0 < n := by omega
 have e1 : (a * n + t) / n = a := by rw [Nat.mul_comm, Nat.mul_add_div hn, Nat.div_eq_of_lt ht, Nat.add_zero]
 have e2 : (a * n + t) % n = t := by rw [Nat.mul_comm, Nat.mul_add_mod, Nat.mod_eq_of_lt ht]
 rw [e1, e2] at h1
 exact h1
theorem keyN_iff {l : Lit} {x y : Nd} (hx : OkN l x) (hy : OkN l y) : keyN l x = keyN l y ↔ EqK x y := by
 have zx := tsAt_zt hx.ev x.es.length
 have zy := tsAt_zt hy.ev y.es.length
 constructor
 ·intro h
  unfold keyN flatK at h
  have kl : ∀ z w : Nat -> Nat -> Int, (lastK l.tn l.wn z).length = (lastK l.tn l.wn w).length := fun z w => by simp [lastK]
  obtain ⟨h, h9⟩ := List.append_inj' h (kl _ _)
  obtain ⟨h, h3⟩ := List.append_inj' h (kl _ _)
  obtain ⟨h, h2⟩ := List.append_inj' h (kl _ _)
  obtain ⟨h, h1⟩ := List.append_inj' h (kl _ _)
  have cl : ∀ f : Clk, (clkL l.tn f).length = l.tn := fun f => by simp [clkL]
  obtain ⟨h, hw⟩ := List.append_inj' h (by rw [fm_len (fun t => cl _), fm_len (fun t => cl _)])
  obtain ⟨h, hm⟩ := List.append_inj' h (by rw [fm_len (fun t => cl _), fm_len (fun t => cl _)])
  unfold flat19 at h
  obtain ⟨hs, h⟩ := List.append_inj h (by rw [hx.good.w, hy.good.w])
  have hc := fm_inj (q := 6) (fun t => rfl) (fun t => rfl) _ h
  have hla : ∀ kd, KdB kd -> ∀ a t, a < l.wn -> t < l.tn -> lastE x.es kd a t = lastE y.es kd a t := by
   intro kd hk a t ha ht
   rcases hk with rfl | rfl | rfl | rfl
   ·exact lastK_inj h1 ha ht
   ·exact lastK_inj h2 ha ht
   ·exact lastK_inj h3 ha ht
   ·exact lastK_inj h9 ha ht
  refine ⟨LS.ext' hx.good hy.good hs (fun t ht => ?_), fun t i => ?_, fun a i => ?_, fun kd hk a t => ?_⟩
  ·have h4 := hc t ht
   simp only [List.cons.injEq, and_true] at h4
   obtain ⟨e0, e1, e2, e3, e4⟩ := h4
   refine ⟨fun q hq => ?_, by omega⟩
   obtain rfl | rfl | rfl | rfl : q = 0 ∨ q = 1 ∨ q = 2 ∨ q = 3 := by omega
   ·exact e0
   ·exact e1
   ·exact e2
   ·exact e3
  ·by_cases hb : t < l.tn /\ i < l.tn
   ·exact mr_inj (fm_inj (fun t => cl _) (fun t => cl _) _ hm t hb.1) i hb.2
   ·exact (zx.m t i (by omega)).trans (zy.m t i (by omega)).symm
  ·by_cases hb : a < l.wn /\ i < l.tn
   ·exact mr_inj (fm_inj (fun t => cl _) (fun t => cl _) _ hw a hb.1) i hb.2
   ·exact (zx.w a i (by omega)).trans (zy.w a i (by omega)).symm
  ·by_cases hb : a < l.wn /\ t < l.tn
   ·exact hla kd hk a t hb.1 hb.2
   ·exact (lastAt_zero hx.ev (by omega) _).trans (lastAt_zero hy.ev (by omega) _).symm
 ·intro h
  have hla : ∀ kd, KdB kd -> lastE x.es kd = lastE y.es kd := fun kd hk => by funext a t; exact h.la kd hk a t
  unfold keyN flatK
  rw [h.s, h.x, hla 1 (Or.inl rfl), hla 2 (Or.inr (Or.inl rfl)), hla 3 (Or.inr (Or.inr (Or.inl rfl))), hla 9 (Or.inr (Or.inr (Or.inr rfl)))]
def padV (k : Nat) (xs : List Value) : List Value := xs ++ List.replicate (k - xs.length) (.int .i64 0)
theorem padV_len {k : Nat} {xs : List Value} (h : xs.length <= k) : (padV k xs).length = k := by unfold padV; simp; omega
theorem padV_inj {k : Nat} {xs ys : List Value} (h : padV k xs = padV k ys) (hl : xs.length = ys.length) : xs = ys := (List.append_inj h hl).1
def picV (x : Nd) : List Value := padV 6 (ints x.S.ws) ++ (padV 16 (ints x.S.rs) ++ (padV 4 (natsI x.S.ps) ++ (tL (xAt x.es) ++ lastL (lastE x.es))))
theorem picV_iff {l : Lit} {x y : Nd} (hx : OkN l x) (hy : OkN l y) (hn : l.tn <= 4) (hw : l.wn <= 6) : picV x = picV y ↔ EqK x y := by
 have zx := tsAt_zt hx.ev x.es.length
 have zy := tsAt_zt hy.ev y.es.length
 have gx := hx.good
 have gy := hy.good
 constructor
 ·intro h
  unfold picV at h
  obtain ⟨h1, h⟩ := List.append_inj h (by rw [padV_len (by rw [ints_len, gx.w]; exact hw), padV_len (by rw [ints_len, gy.w]; exact hw)])
  obtain ⟨h2, h⟩ := List.append_inj h (by rw [padV_len (by rw [ints_len, gx.r]; omega), padV_len (by rw [ints_len, gy.r]; omega)])
  obtain ⟨h3, h⟩ := List.append_inj h (by rw [padV_len (by rw [natsI_len, gx.p]; exact hn), padV_len (by rw [natsI_len, gy.p]; exact hn)])
  obtain ⟨h4, h5⟩ := List.append_inj h (by rw [tL_len, tL_len])
  have e1 := ints_inj (padV_inj h1 (by rw [ints_len, ints_len, gx.w, gy.w]))
  have e2 := ints_inj (padV_inj h2 (by rw [ints_len, ints_len, gx.r, gy.r]))
  have e3 := natsI_inj (padV_inj h3 (by rw [natsI_len, natsI_len, gx.p, gy.p]))
  have e4 := mr_inj (ints_inj h4)
  have e5 := mr_inj (ints_inj h5)
  refine ⟨?_, fun t i => ?_, fun a i => ?_, fun kd hk a t => ?_⟩
  ·obtain ⟨sx, _, _⟩ := x
   obtain ⟨sy, _, _⟩ := y
   cases sx
   cases sy
   dsimp only at e1 e2 e3 ⊢
   rw [e1, e2, e3]
  ·by_cases hb : t < 4 /\ i < 4
   ·have := e4 (t * 4 + i) (by omega)
    rwa [tC_m _ hb.1 hb.2, tC_m _ hb.1 hb.2] at this
   ·exact (zx.m t i (by omega)).trans (zy.m t i (by omega)).symm
  ·by_cases hb : a < 6 /\ i < 4
   ·have := e4 (16 + (a * 4 + i)) (by omega)
    rwa [tC_w _ hb.2, tC_w _ hb.2] at this
   ·exact (zx.w a i (by omega)).trans (zy.w a i (by omega)).symm
  ·by_cases hb : a < 6 /\ t < 4
   ·obtain ⟨q, hq, rfl⟩ := hk.ex
    have := e5 (a * 16 + t * 4 + q) (by omega)
    rwa [lastC_of _ hb.2 hq, lastC_of _ hb.2 hq] at this
   ·exact (lastAt_zero hx.ev (by omega) _).trans (lastAt_zero hy.ev (by omega) _).symm
 ·intro h
  unfold picV
  rw [h.s, h.x]
  congr 4
  unfold lastL
  congr 1
  refine List.map_congr_left fun c hc => ?_
  unfold lastC
  exact h.la _ (KdB.of _ (by omega)) _ _
theorem picV_key {l : Lit} {x y : Nd} (hx : OkN l x) (hy : OkN l y) (hn : l.tn <= 4) (hw : l.wn <= 6) : picV x = picV y ↔ keyN l x = keyN l y := (picV_iff hx hy hn hw).trans (keyN_iff hx hy).symm
theorem lastU_snoc {es : List Ev} {e : Ev} (he : EvWf e) : lastL (lastU (lastE es) e (tickM (xAt es) e e.t)) = lastL (lastE (es ++ [e])) := by
 unfold lastL
 congr 1
 refine List.map_congr_left fun c hc => ?_
 unfold lastC
 have hq : c % 4 < 4 := by omega
 obtain ⟨q, hqe⟩ : ∃ q, q = c % 4 := ⟨_, rfl⟩
 rw [<- hqe] at hq ⊢
 rw [lastE_snoc]
 have hw := hitK_wf he
 have hk : hitK (kdOf q) e = true ↔ (q = 0 /\ e.k = 1 ∨ q = 1 /\ e.k = 2 ∨ q = 2 /\ e.k = 3 ∨ q = 3 /\ e.k = 3 /\ e.wr = true) := by
  obtain rfl | rfl | rfl | rfl : q = 0 ∨ q = 1 ∨ q = 2 ∨ q = 3 := by omega
  ·have := hw.1; simpa [kdOf] using this
  ·have := hw.2.1; simpa [kdOf] using this
  ·have := hw.2.2.1; simpa [kdOf] using this
  ·have := hw.2.2.2; simpa [kdOf] using this
 have hs : ∀ (la : Int -> Nat -> Nat -> Int) (p a t : Nat) (v : Int) (b u : Nat), p < 4 -> setL la p a t v (kdOf q) b u = if q = p /\ b = a /\ u = t then v else la (kdOf q) b u := by
  intro la p a t v b u hp
  unfold setL
  by_cases h9 : q = p
  ·subst h9; simp
  ·rw [if_neg (fun h => h9 (kdOf_inj hq hp h.1)), if_neg (fun h => h9 h.1)]
 unfold lastU
 rcases he with ⟨e1, e2⟩ | ⟨e1, e2⟩ | e1
 ·rw [if_pos e1, hs _ _ _ _ _ _ _ (by omega)]
  refine if_iff ?_ _ _
  rw [hk, e1]
  simp
 ·rw [if_neg (by omega), if_pos e1, hs _ _ _ _ _ _ _ (by omega)]
  refine if_iff ?_ _ _
  rw [hk, e1]
  simp
 ·rw [if_neg (by omega), if_neg (by omega)]
  cases hwr : e.wr with
  | false =>
   rw [if_neg (by simp), hs _ _ _ _ _ _ _ (by omega)]
   refine if_iff ?_ _ _
   rw [hk, e1, hwr]
   simp
  | true =>
   rw [if_pos rfl, hs _ _ _ _ _ _ _ (by omega), hs _ _ _ _ _ _ _ (by omega)]
   by_cases h3 : q = 3 /\ c / 16 = e.a /\ c / 4 % 4 = e.t
   ·rw [if_pos h3, if_pos ⟨hk.2 (Or.inr (Or.inr (Or.inr ⟨h3.1, e1, hwr⟩))), h3.2⟩]
   ·rw [if_neg h3]
    refine if_iff ?_ _ _
    rw [hk, e1, hwr]
    constructor
    ·rintro ⟨h4, h5⟩
     exact ⟨Or.inr (Or.inr (Or.inl ⟨h4, rfl⟩)), h5⟩
    ·rintro ⟨h4, h5⟩
     refine ⟨?_, h5⟩
     rcases h4 with ⟨_, h6⟩ | ⟨_, h6⟩ | ⟨h6, _⟩ | ⟨h6, _⟩
     ·omega
     ·omega
     ·exact h6
     ·exact absurd ⟨h6, h5⟩ h3
end Go.Proofs.YtgjdgapfnfhklaaGreat
