/-
  Two nodes are told apart by the program's picture just where the reference's list of numbers tells them apart. Plain data.
  The picture of a node as a map's key; a map of the call's own that holds the pictures that were seen.
  A node of races.Free by value: its cells, and how they are put together.
  Every number of a litmus run fits an int; so a node's picture is a key. Plain data.
  Operations on whole nodes taken one by one: build, load, alloc; what PfI keeps in races.Free's loops. No walk.
-/
import Derived.Test.YtgbopmgeicokoaaBfs
import Derived.Test.YtgbopmgeicokoaaNrr
import Derived.Maps.Own
import Derived.Maps.OwnOps
import Derived.DeepKeys4
import Derived.Test.YtgbopmgeicokoaaWay
import Derived.Test.YtgbopmgeicokoaaFil
import Derived.Great.FillDense
import Derived.Laws.Tables
import Derived.OpenShut
import Derived.Test.YtgbopmgeicokoaaMad
import Derived.Test.YtgbopmgeicokoaaBeg
import Derived.Great.Walk
import Derived.Great.BuildSlice
namespace Go.Proofs.Ytgbopmgeicokoaa
open Go.RowKit
set_option linter.unusedSimpArgs false
set_option linter.unusedVariables false

theorem if_iff {α : Type} {p q : Prop} [Decidable p] [Decidable q] (h : p ↔ q) (a b : α) : (if p then a else b) = if q then a else b := by
  by_cases hp : p
  · rw [if_pos hp, if_pos (h.1 hp)]
  · rw [if_neg hp, if_neg (fun hq => hp (h.2 hq))]
theorem ints_inj {a b : List Int} (h : ints a = ints b) : a = b := by
  unfold ints at h
  exact (List.map_inj_right (fun x y h => by injection h)).1 h
theorem natsI_inj {a b : List Nat} (h : natsI a = natsI b) : a = b := by
  unfold natsI at h
  exact (List.map_inj_right (fun x y h => by injection h with _ h; exact Int.ofNat.inj h)).1 h
/-- zero beyond threads and words -/
structure ZT (n nw : Nat) (x : TS) : Prop where
  m : ∀ t i, (n ≤ t ∨ n ≤ i) → x.m t i = 0
  w : ∀ a i, (nw ≤ a ∨ n ≤ i) → x.wd a i = 0
theorem ZT.tickM {n nw : Nat} {x : TS} (h : ZT n nw x) {e : Ev} (ht : e.t < n) {i : Nat} (hi : n ≤ i) : tickM x e i = 0 := by
  have hb : bumpW (x.m e.t) e.t i = 0 := by
    unfold bumpW
    rw [if_neg (by omega)]
    exact h.m _ _ (Or.inr hi)
  unfold Go.Proofs.Ytgbopmgeicokoaa.tickM
  split
  · unfold maxC
    rw [hb, h.w _ _ (Or.inr hi)]
    rfl
  · exact hb
theorem ZT.tick {n nw : Nat} {x : TS} (h : ZT n nw x) {e : Ev} (ht : e.t < n) (ha : e.a < nw) : ZT n nw (tickS x e) := by
  refine ⟨fun t i hi => ?_, fun a i hi => ?_⟩
  · show (if t = e.t then Go.Proofs.Ytgbopmgeicokoaa.tickM x e else x.m t) i = 0
    split
    · exact h.tickM ht (by omega)
    · exact h.m t i hi
  · show (if e.k = 3 ∧ e.wr = true ∧ a = e.a then Go.Proofs.Ytgbopmgeicokoaa.tickM x e else x.wd a) i = 0
    split
    · exact h.tickM ht (by omega)
    · exact h.w a i hi
theorem tsAt_zt {n nw : Nat} {es : List Ev} (h : ∀ e ∈ es, e.t < n ∧ e.a < nw) : ∀ j, ZT n nw (tsAt es j)
  | 0 => ⟨fun _ _ _ => rfl, fun _ _ _ => rfl⟩
  | j + 1 => by
    rw [tsAt]
    split
    · rename_i e he
      have := h e (List.mem_of_getElem? he)
      exact (tsAt_zt h j).tick this.1 this.2
    · exact tsAt_zt h j
theorem lastAt_zero {n nw : Nat} {es : List Ev} {kd : Int} (h : ∀ e ∈ es, e.t < n ∧ e.a < nw) {a t : Nat} (hat : nw ≤ a ∨ n ≤ t) : ∀ j, lastAt es kd j a t = 0
  | 0 => rfl
  | j + 1 => by
    cases he : es[j]? with
    | none =>
      rw [lastAt, he]
      exact lastAt_zero h hat j
    | some e =>
      have := h e (List.mem_of_getElem? he)
      rw [lastAt_next he, if_neg (by omega)]
      exact lastAt_zero h hat j

/-- the kinds of last numbers -/
def KdB (kd : Int) : Prop := kd = 1 ∨ kd = 2 ∨ kd = 3 ∨ kd = 9
theorem KdB.of (q : Nat) (hq : q < 4) : KdB (kdOf q) := by
  unfold kdOf KdB
  split <;> omega
theorem KdB.ex {kd : Int} (h : KdB kd) : ∃ q, q < 4 ∧ kdOf q = kd := by
  unfold KdB at h
  rcases h with h | h | h | h
  · exact ⟨0, by omega, by rw [h]; rfl⟩
  · exact ⟨1, by omega, by rw [h]; rfl⟩
  · exact ⟨2, by omega, by rw [h]; rfl⟩
  · exact ⟨3, by omega, by rw [h]; rfl⟩
/-- what tells nodes apart -/
structure EqK (x y : Nd) : Prop where
  s : x.S = y.S
  m : ∀ t i, (xAt x.es).m t i = (xAt y.es).m t i
  w : ∀ a i, (xAt x.es).wd a i = (xAt y.es).wd a i
  la : ∀ kd, KdB kd → ∀ a t, lastE x.es kd a t = lastE y.es kd a t
theorem EqK.x {x y : Nd} (h : EqK x y) : xAt x.es = xAt y.es := by
  have h1 : (xAt x.es).m = (xAt y.es).m := by funext t i; exact h.m t i
  have h2 : (xAt x.es).wd = (xAt y.es).wd := by funext t i; exact h.w t i
  cases hx : xAt x.es
  cases hy : xAt y.es
  rw [hx, hy] at h1 h2
  dsimp only at h1 h2
  rw [h1, h2]

theorem fm_len {f : Nat → List Int} {q : Nat} (hf : ∀ t, (f t).length = q) (n : Nat) : ((List.range n).flatMap f).length = n * q := by
  induction n with
  | zero => simp
  | succ n ih => rw [List.range_succ, List.flatMap_append, List.length_append, ih]; simp [hf]; rw [Nat.add_mul]; omega
theorem fm_inj {f g : Nat → List Int} {q : Nat} (hf : ∀ t, (f t).length = q) (hg : ∀ t, (g t).length = q) : ∀ n, (List.range n).flatMap f = (List.range n).flatMap g → ∀ t, t < n → f t = g t
  | 0, _, t, ht => absurd ht (by omega)
  | n + 1, h, t, ht => by
    rw [List.range_succ, List.flatMap_append, List.flatMap_append] at h
    have h1 := List.append_inj h (by rw [fm_len hf, fm_len hg])
    by_cases hn : t = n
    · subst hn
      simpa using h1.2
    · exact fm_inj hf hg n h1.1 t (by omega)
theorem mr_inj {f g : Nat → Int} {n : Nat} (h : (List.range n).map f = (List.range n).map g) : ∀ i, i < n → f i = g i := fun i hi => List.map_inj_left.1 h i (List.mem_range.2 hi)

theorem LS.ext' {l : Lit} {S T : LS} (hS : GoodS l S) (hT : GoodS l T) (hw : S.ws = T.ws) (h : ∀ t, t < l.tn → (∀ q, q < 4 → S.r t q = T.r t q) ∧ S.p t = T.p t) : S = T := by
  have hr : S.rs = T.rs := by
    apply List.ext_getElem?
    intro c
    by_cases hc : c < l.tn * 4
    · have h1 := (h (c / 4) (by omega)).1 (c % 4) (by omega)
      have e : c / 4 * 4 + c % 4 = c := by omega
      have h2 := LS.r_at (S := S) (t := c / 4) (q := c % 4) (by rw [hS.r]; omega)
      have h3 := LS.r_at (S := T) (t := c / 4) (q := c % 4) (by rw [hT.r]; omega)
      rw [e] at h2 h3
      rw [h2, h3, h1]
    · rw [List.getElem?_eq_none (by rw [hS.r]; omega), List.getElem?_eq_none (by rw [hT.r]; omega)]
  have hp : S.ps = T.ps := by
    apply List.ext_getElem?
    intro c
    by_cases hc : c < l.tn
    · rw [LS.p_at (S := S) (by rw [hS.p]; exact hc), LS.p_at (S := T) (by rw [hT.p]; exact hc), (h c hc).2]
    · rw [List.getElem?_eq_none (by rw [hS.p]; omega), List.getElem?_eq_none (by rw [hT.p]; omega)]
  cases S
  cases T
  dsimp only at hw hr hp
  rw [hw, hr, hp]
theorem OkN.ev {l : Lit} {x : Nd} (h : OkN l x) : ∀ e ∈ x.es, e.t < l.tn ∧ e.a < l.wn := fun e he => h.ok e he
theorem lastK_inj {n nw : Nat} {f g : Nat → Nat → Int} (h : lastK n nw f = lastK n nw g) {a t : Nat} (ha : a < nw) (ht : t < n) : f a t = g a t := by
  unfold lastK at h
  have hlt : a * n + t < nw * n := by
    have : (a + 1) * n ≤ nw * n := Nat.mul_le_mul_right n ha
    rw [Nat.add_mul, Nat.one_mul] at this
    omega
  have h1 := mr_inj h (a * n + t) hlt
  have hn : 0 < n := by omega
  have e1 : (a * n + t) / n = a := by rw [Nat.mul_comm, Nat.mul_add_div hn, Nat.div_eq_of_lt ht, Nat.add_zero]
  have e2 : (a * n + t) % n = t := by rw [Nat.mul_comm, Nat.mul_add_mod, Nat.mod_eq_of_lt ht]
  rw [e1, e2] at h1
  exact h1
theorem keyN_iff {l : Lit} {x y : Nd} (hx : OkN l x) (hy : OkN l y) : keyN l x = keyN l y ↔ EqK x y := by
  have zx := tsAt_zt hx.ev x.es.length
  have zy := tsAt_zt hy.ev y.es.length
  constructor
  · intro h
    unfold keyN flatK at h
    have kl : ∀ z w : Nat → Nat → Int, (lastK l.tn l.wn z).length = (lastK l.tn l.wn w).length := fun z w => by simp [lastK]
    obtain ⟨h, h9⟩ := List.append_inj' h (kl _ _)
    obtain ⟨h, h3⟩ := List.append_inj' h (kl _ _)
    obtain ⟨h, h2⟩ := List.append_inj' h (kl _ _)
    obtain ⟨h, h1⟩ := List.append_inj' h (kl _ _)
    have cl : ∀ f : Clk, (clkL l.tn f).length = l.tn := fun f => by simp [clkL]
    obtain ⟨h, hw⟩ := List.append_inj' h (by rw [fm_len (fun t => cl _), fm_len (fun t => cl _)])
    obtain ⟨h, hm⟩ := List.append_inj' h (by rw [fm_len (fun t => cl _), fm_len (fun t => cl _)])
    unfold flat19 at h
    obtain ⟨hs, h⟩ := List.append_inj h (by rw [hx.good.w, hy.good.w])
    have hc := fm_inj (q := 6) (fun t => rfl) (fun t => rfl) _ h
    have hla : ∀ kd, KdB kd → ∀ a t, a < l.wn → t < l.tn → lastE x.es kd a t = lastE y.es kd a t := by
      intro kd hk a t ha ht
      rcases hk with rfl | rfl | rfl | rfl
      · exact lastK_inj h1 ha ht
      · exact lastK_inj h2 ha ht
      · exact lastK_inj h3 ha ht
      · exact lastK_inj h9 ha ht
    refine ⟨LS.ext' hx.good hy.good hs (fun t ht => ?_), fun t i => ?_, fun a i => ?_, fun kd hk a t => ?_⟩
    · have h4 := hc t ht
      simp only [List.cons.injEq, and_true] at h4
      obtain ⟨e0, e1, e2, e3, e4⟩ := h4
      refine ⟨fun q hq => ?_, by omega⟩
      obtain rfl | rfl | rfl | rfl : q = 0 ∨ q = 1 ∨ q = 2 ∨ q = 3 := by omega
      · exact e0
      · exact e1
      · exact e2
      · exact e3
    · by_cases hb : t < l.tn ∧ i < l.tn
      · exact mr_inj (fm_inj (fun t => cl _) (fun t => cl _) _ hm t hb.1) i hb.2
      · exact (zx.m t i (by omega)).trans (zy.m t i (by omega)).symm
    · by_cases hb : a < l.wn ∧ i < l.tn
      · exact mr_inj (fm_inj (fun t => cl _) (fun t => cl _) _ hw a hb.1) i hb.2
      · exact (zx.w a i (by omega)).trans (zy.w a i (by omega)).symm
    · by_cases hb : a < l.wn ∧ t < l.tn
      · exact hla kd hk a t hb.1 hb.2
      · exact (lastAt_zero hx.ev (by omega) _).trans (lastAt_zero hy.ev (by omega) _).symm
  · intro h
    have hla : ∀ kd, KdB kd → lastE x.es kd = lastE y.es kd := fun kd hk => by funext a t; exact h.la kd hk a t
    unfold keyN flatK
    rw [h.s, h.x, hla 1 (Or.inl rfl), hla 2 (Or.inr (Or.inl rfl)), hla 3 (Or.inr (Or.inr (Or.inl rfl))), hla 9 (Or.inr (Or.inr (Or.inr rfl)))]

/-- the program's picture of a node -/
def padV (k : Nat) (xs : List Value) : List Value := xs ++ List.replicate (k - xs.length) (.int .i64 0)
theorem padV_len {k : Nat} {xs : List Value} (h : xs.length ≤ k) : (padV k xs).length = k := by unfold padV; simp; omega
theorem padV_inj {k : Nat} {xs ys : List Value} (h : padV k xs = padV k ys) (hl : xs.length = ys.length) : xs = ys := (List.append_inj h hl).1
def picV (x : Nd) : List Value := padV 6 (ints x.S.ws) ++ (padV 16 (ints x.S.rs) ++ (padV 4 (natsI x.S.ps) ++ (tL (xAt x.es) ++ lastL (lastE x.es))))
theorem picV_iff {l : Lit} {x y : Nd} (hx : OkN l x) (hy : OkN l y) (hn : l.tn ≤ 4) (hw : l.wn ≤ 6) : picV x = picV y ↔ EqK x y := by
  have zx := tsAt_zt hx.ev x.es.length
  have zy := tsAt_zt hy.ev y.es.length
  have gx := hx.good
  have gy := hy.good
  constructor
  · intro h
    unfold picV at h
    obtain ⟨h1, h⟩ := List.append_inj h (by rw [padV_len (by rw [ints_len, gx.w]; exact hw), padV_len (by rw [ints_len, gy.w]; exact hw)])
    obtain ⟨h2, h⟩ := List.append_inj h (by rw [padV_len (by rw [ints_len, gx.r]; omega), padV_len (by rw [ints_len, gy.r]; omega)])
    obtain ⟨h3, h⟩ := List.append_inj h (by rw [padV_len (by rw [natsI_len, gx.p]; exact hn), padV_len (by rw [natsI_len, gy.p]; exact hn)])
    obtain ⟨h4, h5⟩ := List.append_inj h (by rw [tL_len, tL_len])
    have e1 := ints_inj (padV_inj h1 (by rw [ints_len, ints_len, gx.w, gy.w]))
    have e2 := ints_inj (padV_inj h2 (by rw [ints_len, ints_len, gx.r, gy.r]))
    have e3 := natsI_inj (padV_inj h3 (by rw [natsI_len, natsI_len, gx.p, gy.p]))
    have e4 := mr_inj (ints_inj h4)
    have e5 := mr_inj (ints_inj h5)
    refine ⟨?_, fun t i => ?_, fun a i => ?_, fun kd hk a t => ?_⟩
    · obtain ⟨sx, _, _⟩ := x
      obtain ⟨sy, _, _⟩ := y
      cases sx
      cases sy
      dsimp only at e1 e2 e3 ⊢
      rw [e1, e2, e3]
    · by_cases hb : t < 4 ∧ i < 4
      · have := e4 (t * 4 + i) (by omega)
        rwa [tC_m _ hb.1 hb.2, tC_m _ hb.1 hb.2] at this
      · exact (zx.m t i (by omega)).trans (zy.m t i (by omega)).symm
    · by_cases hb : a < 6 ∧ i < 4
      · have := e4 (16 + (a * 4 + i)) (by omega)
        rwa [tC_w _ hb.2, tC_w _ hb.2] at this
      · exact (zx.w a i (by omega)).trans (zy.w a i (by omega)).symm
    · by_cases hb : a < 6 ∧ t < 4
      · obtain ⟨q, hq, rfl⟩ := hk.ex
        have := e5 (a * 16 + t * 4 + q) (by omega)
        rwa [lastC_of _ hb.2 hq, lastC_of _ hb.2 hq] at this
      · exact (lastAt_zero hx.ev (by omega) _).trans (lastAt_zero hy.ev (by omega) _).symm
  · intro h
    unfold picV
    rw [h.s, h.x]
    congr 4
    unfold lastL
    congr 1
    refine List.map_congr_left fun c hc => ?_
    unfold lastC
    exact h.la _ (KdB.of _ (by omega)) _ _
theorem picV_key {l : Lit} {x y : Nd} (hx : OkN l x) (hy : OkN l y) (hn : l.tn ≤ 4) (hw : l.wn ≤ 6) : picV x = picV y ↔ keyN l x = keyN l y := (picV_iff hx hy hn hw).trans (keyN_iff hx hy).symm
/-- the numbers that node.races leaves are those of the events behind -/
theorem lastU_snoc {es : List Ev} {e : Ev} (he : EvWf e) : lastL (lastU (lastE es) e (tickM (xAt es) e e.t)) = lastL (lastE (es ++ [e])) := by
  unfold lastL
  congr 1
  refine List.map_congr_left fun c hc => ?_
  unfold lastC
  have hq : c % 4 < 4 := by omega
  obtain ⟨q, hqe⟩ : ∃ q, q = c % 4 := ⟨_, rfl⟩
  rw [← hqe] at hq ⊢
  rw [lastE_snoc]
  have hw := hitK_wf he
  have hk : hitK (kdOf q) e = true ↔ (q = 0 ∧ e.k = 1 ∨ q = 1 ∧ e.k = 2 ∨ q = 2 ∧ e.k = 3 ∨ q = 3 ∧ e.k = 3 ∧ e.wr = true) := by
    obtain rfl | rfl | rfl | rfl : q = 0 ∨ q = 1 ∨ q = 2 ∨ q = 3 := by omega
    · have := hw.1; simpa [kdOf] using this
    · have := hw.2.1; simpa [kdOf] using this
    · have := hw.2.2.1; simpa [kdOf] using this
    · have := hw.2.2.2; simpa [kdOf] using this
  have hs : ∀ (la : Int → Nat → Nat → Int) (p a t : Nat) (v : Int) (b u : Nat), p < 4 → setL la p a t v (kdOf q) b u = if q = p ∧ b = a ∧ u = t then v else la (kdOf q) b u := by
    intro la p a t v b u hp
    unfold setL
    by_cases h9 : q = p
    · subst h9; simp
    · rw [if_neg (fun h => h9 (kdOf_inj hq hp h.1)), if_neg (fun h => h9 h.1)]
  unfold lastU
  rcases he with ⟨e1, e2⟩ | ⟨e1, e2⟩ | e1
  · rw [if_pos e1, hs _ _ _ _ _ _ _ (by omega)]
    refine if_iff ?_ _ _
    rw [hk, e1]
    simp
  · rw [if_neg (by omega), if_pos e1, hs _ _ _ _ _ _ _ (by omega)]
    refine if_iff ?_ _ _
    rw [hk, e1]
    simp
  · rw [if_neg (by omega), if_neg (by omega)]
    cases hwr : e.wr with
    | false =>
      rw [if_neg (by simp), hs _ _ _ _ _ _ _ (by omega)]
      refine if_iff ?_ _ _
      rw [hk, e1, hwr]
      simp
    | true =>
      rw [if_pos rfl, hs _ _ _ _ _ _ _ (by omega), hs _ _ _ _ _ _ _ (by omega)]
      by_cases h3 : q = 3 ∧ c / 16 = e.a ∧ c / 4 % 4 = e.t
      · rw [if_pos h3, if_pos ⟨hk.2 (Or.inr (Or.inr (Or.inr ⟨h3.1, e1, hwr⟩))), h3.2⟩]
      · rw [if_neg h3]
        refine if_iff ?_ _ _
        rw [hk, e1, hwr]
        constructor
        · rintro ⟨h4, h5⟩
          exact ⟨Or.inr (Or.inr (Or.inl ⟨h4, rfl⟩)), h5⟩
        · rintro ⟨h4, h5⟩
          refine ⟨?_, h5⟩
          rcases h4 with ⟨_, h6⟩ | ⟨_, h6⟩ | ⟨h6, _⟩ | ⟨h6, _⟩
          · omega
          · omega
          · exact h6
          · exact absurd ⟨h6, h5⟩ h3
end Go.Proofs.Ytgbopmgeicokoaa
namespace Go.Proofs.Ytgbopmgeicokoaa
open Go.RowKit Go.Maps

/-- does a type lie in cells of int alone -/
def fitsK (P : Program) : Nat → TypeId → Bool
  | 0, _ => false
  | d + 1, t =>
    match P.underlying t with
    | some (.int .i64) => P.cellsOf t == 1
    | some (.array n e) => (P.cellsOf t == n * P.cellsOf e) && fitsK P d e
    | some (.struct fs) => (fs.all (·.name != "_")) && fs.all fun f => decide (f.offset + P.cellsOf f.type ≤ P.cellsOf t) && fitsK P d f.type
    | _ => false
def IntsOk (cs : List Value) : Prop := ∀ v ∈ cs, ∃ z : Int, v = .int .i64 z ∧ (Go.Lit.int .i64 z).wf = true
theorem IntsOk.part {cs : List Value} (h : IntsOk cs) (i n : Nat) : IntsOk ((cs.drop i).take n) := fun v hv => h v (List.mem_of_mem_drop (List.mem_of_mem_take hv))
theorem mapM_some {α β : Type} {f : α → Option β} : ∀ {l : List α}, (∀ x ∈ l, ∃ y, f x = some y) → ∃ ys, l.mapM f = some ys
  | [], _ => ⟨[], rfl⟩
  | a :: l, h => by
    obtain ⟨y, hy⟩ := h a (by simp)
    obtain ⟨ys, hys⟩ := mapM_some (l := l) (fun x hx => h x (by simp [hx]))
    exact ⟨y :: ys, by simp [List.mapM_cons, hy, hys]⟩
theorem keyLits_ok {P : Program} : ∀ (d : Nat) (t : TypeId) (cs : List Value), fitsK P d t = true → cs.length = P.cellsOf t → IntsOk cs → ∃ ls, P.keyLits d t cs = some ls
  | 0, _, _, h, _, _ => by simp [fitsK] at h
  | d + 1, t, cs, h, hl, hi => by
    rw [fitsK] at h
    split at h
    · rename_i hu
      have h1 : P.cellsOf t = 1 := by simpa using h
      rw [h1] at hl
      match cs, hl with
      | [v], _ =>
        obtain ⟨z, rfl, hz⟩ := hi v (by simp)
        exact ⟨[.int .i64 z], by unfold Program.keyLits; rw [hu]; simp [hz]⟩
    · rename_i n e hu
      rw [Bool.and_eq_true] at h
      have h1 : P.cellsOf t = n * P.cellsOf e := by simpa using h.1
      obtain ⟨ys, hys⟩ := mapM_some (f := fun i => P.keyLits d e ((cs.drop (i * P.cellsOf e)).take (P.cellsOf e))) (l := List.range n) (fun i hin => by
        have hin := List.mem_range.1 hin
        refine keyLits_ok d e _ h.2 ?_ (hi.part _ _)
        have h9 : (i + 1) * P.cellsOf e ≤ n * P.cellsOf e := Nat.mul_le_mul_right _ hin
        rw [Nat.add_mul, Nat.one_mul] at h9
        rw [List.length_take, List.length_drop]
        omega)
      refine ⟨ys.flatten, ?_⟩
      unfold Program.keyLits
      rw [hu]
      simp only [hl, if_true, hys]
      rfl
    · rename_i fs hu
      rw [Bool.and_eq_true] at h
      obtain ⟨ys, hys⟩ := mapM_some (f := fun f : Field => P.keyLits d f.type ((cs.drop f.offset).take (P.cellsOf f.type))) (l := fs.toList) (fun f hf => by
        have h9 := Array.all_eq_true'.1 h.2 f (by simpa using hf)
        rw [Bool.and_eq_true, decide_eq_true_eq] at h9
        refine keyLits_ok d f.type _ h9.2 ?_ (hi.part _ _)
        rw [List.length_take, List.length_drop]
        omega)
      refine ⟨ys.flatten, ?_⟩
      unfold Program.keyLits
      rw [hu]
      simp only [hl, h.1, and_self, if_true, hys]
      rfl
    · cases h
theorem laid_K : laidOutB Try.prog = true := by kernel_rfl
theorem row_pic : 212 < Try.prog.types.size := of_decide_eq_true (by kernel_rfl)
theorem wide_pic : (match Try.prog.underlying 212 with | some (.array _ _) | some (.struct _) => true | _ => false) = true := by kernel_rfl
set_option maxRecDepth 100000 in
theorem law_pic : Keyed Try.prog 212 := Keyed.of_law (deep_law_laid laid_K (m := 6) (by omega) row_pic (by kernel_rfl) wide_pic)
set_option maxRecDepth 100000 in
theorem pic_key {cs : List Value} (hl : cs.length = 162) (hi : IntsOk cs) : ∃ kl, keyOf Try.prog 212 (.agg cs.toArray) = some kl := by
  have hc : Try.prog.cellsOf 212 = 162 := by kernel_rfl
  have hk : Try.prog.keyType 212 = true := by kernel_rfl
  have hf : fitsK Try.prog (Try.prog.types.size + 1) 212 = true := by kernel_rfl
  have hw := wide_pic
  obtain ⟨ls, hls⟩ := keyLits_ok _ 212 cs hf (by rw [hl, hc]) hi
  have hfm : (Value.agg cs.toArray).formed Try.prog 212 = true := by
    unfold Value.formed
    split at hw <;> rename_i h9 <;> simp_all
  unfold keyOf
  refine ⟨.string (keyBytes ls), ?_⟩
  split
  · rw [hk, hfm]
    simp only [Bool.and_self, if_true, Value.cells]
    rw [hls]
    rfl
  · rw [hk, hfm]
    simp only [Bool.and_self, if_true, Value.cells]
    rw [hls]
    rfl
  · rename_i h1 h2
    split at hw
    · rename_i n e h9; exact absurd h9 (h1 n e)
    · rename_i fs h9; exact absurd h9 (h2 fs)
    · cases hw
/-- 1 where a picture is among those, else 0 -/
noncomputable def pmN (ks : List (List Value)) (cs : List Value) : Int := @ite _ (cs ∈ ks) (Classical.propDecidable _) 1 0
theorem pmN_in {ks : List (List Value)} {cs : List Value} (h : cs ∈ ks) : pmN ks cs = 1 := by unfold pmN; rw [if_pos h]
theorem pmN_out {ks : List (List Value)} {cs : List Value} (h : cs ∉ ks) : pmN ks cs = 0 := by unfold pmN; rw [if_neg h]
theorem pmN_snoc {ks : List (List Value)} {cs cs' : List Value} (h : cs' ≠ cs) : pmN (ks ++ [cs]) cs' = pmN ks cs' := by
  by_cases hm : cs' ∈ ks
  · rw [pmN_in hm, pmN_in (by simp [hm])]
  · rw [pmN_out hm, pmN_out (by simp [hm, h])]
/-- block b is a map that holds the pictures ks, each with 1 -/
def PicMap (w : World) (b n : Nat) (ks : List (List Value)) : Prop :=
  ∃ D : DataW Unit, w.ownsMap Try.prog 212 (plainElem Try.prog 3) b n D ∧ IsMap D ∧ ∀ cs kl, keyOf Try.prog 212 (.agg cs.toArray) = some kl → D.atKey kl (.lit (.int .i64 0)) = .lit (.int .i64 (pmN ks cs))
theorem zero_intP (w : World) : (zeroValue 3).run Try.prog w = .ok (.int .i64 0) w := by
  have h : (Try.prog.info? 3).map (fun i => (i.zero, i.size)) = some (some (.int .i64 0), 1) := by kernel_rfl
  exact (zero_of_info h).1 w
section
variable {w w' : World} {b n : Nat} {ks : List (List Value)}
theorem PicMap.made (w : World) : PicMap (w.alloc (.map #[] 0)) w.heap.size 0 [] := ⟨.map [], World.ownsMap_made w _ _ _, isMap_empty, fun cs kl _ => by rw [pmN_out (by simp)]; rfl⟩
theorem PicMap.lt (h : PicMap w b n ks) : b < w.heap.size := h.choose_spec.1.lt
theorem PicMap.kept {row : Option Nat} (h : PicMap w b n ks) (hg : w.grownBy w' row) (hne : some b ≠ row) : PicMap w' b n ks := by
  obtain ⟨D, h1, h2⟩ := h
  exact ⟨D, h1.kept hg hne, h2⟩
theorem PicMap.on (h : PicMap w b n ks) (hb : Below w.heap.size w w') : PicMap w' b n ks := h.kept (gb_below hb none) (by simp)
set_option maxRecDepth 100000 in
theorem pic_lit {cs cs' : List Value} {kl : Go.Lit} (h : keyOf Try.prog 212 (.agg cs.toArray) = some kl) (h' : keyOf Try.prog 212 (.agg cs'.toArray) = some kl) : cs = cs' := by
  have := law_pic.inj h h'
  injection this with this
  simpa using this
set_option maxRecDepth 100000 in
theorem PicMap.look (h : PicMap w b n ks) {cs : List Value} (hl : cs.length = 162) (hi : IntsOk cs) :
    (Instr.lookup 216 (.map (some b)) (.agg cs.toArray) false).run Try.prog w = .ok (.int .i64 (pmN ks cs)) w := by
  obtain ⟨kl, hk⟩ := pic_key hl hi
  obtain ⟨D, h1, _, h3⟩ := h
  obtain ⟨c, hrun, hat, _⟩ := h1.lookup_int law_pic Try.underlying216 Try.underlying3 (zero_intP w) hk
  rw [h3 cs kl hk] at hat
  injection hat with hat
  injection hat with _ hat
  rw [hrun, ← hat]
set_option maxRecDepth 100000 in
theorem PicMap.put (h : PicMap w b n ks) (hn : n < maxLen) {cs : List Value} (hl : cs.length = 162) (hi : IntsOk cs) :
    ∃ w', (Instr.mapUpdate 216 (.map (some b)) (.agg cs.toArray) (.int .i64 1)).run Try.prog w = .ok () w' ∧ PicMap w' b (n + 1) (ks ++ [cs]) ∧ w.grownBy w' (some b) := by
  obtain ⟨kl, hk⟩ := pic_key hl hi
  obtain ⟨D, h1, h2, h3⟩ := h
  obtain ⟨w', hrun, r1, r2⟩ := h1.update law_pic Try.underlying216 hn hk (plainElem_int (H := Unit) Try.underlying3 (a := 1) (by decide))
  refine ⟨w', hrun, ⟨_, r1, h2.put _ _, fun cs' kl' hk' => ?_⟩, r2⟩
  by_cases he : kl' = kl
  · subst he
    have := pic_lit hk' hk
    subst this
    rw [atKey_put_same h2 (law_pic.key hk), pmN_in (by simp)]
  · rw [atKey_put_other (fun e => he (by rw [e])), h3 cs' kl' hk']
    have hne : cs' ≠ cs := by
      intro e
      subst e
      rw [hk] at hk'
      injection hk' with hk'
      exact he hk'.symm
    rw [pmN_snoc hne]
end
end Go.Proofs.Ytgbopmgeicokoaa
namespace Go.Proofs.Ytgbopmgeicokoaa
open Go.RowKit

theorem splice_get {L l : List Value} {off : Nat} (h : off + l.length ≤ L.length) (k : Nat) : (splice L off l)[k]? = if off ≤ k ∧ k < off + l.length ∧ k < L.length then l[k - off]? else L[k]? := by
  unfold splice
  by_cases h1 : k < off
  · rw [if_neg (by omega), List.getElem?_append_left (by rw [List.length_take]; omega), List.getElem?_take_of_lt h1]
  · rw [List.getElem?_append_right (by rw [List.length_take]; omega), List.length_take, show k - min off L.length = k - off by omega]
    by_cases h2 : k < off + l.length
    · rw [if_pos (by omega), List.getElem?_append_left (by omega)]
    · rw [if_neg (by omega), List.getElem?_append_right (by omega), List.getElem?_drop]
      congr 1
      omega
theorem fill_cons {place : Nat → Option (Nat × Nat)} {L l : List Value} {i off size : Nat} {v : Value} {rest : List (Nat × Value)} (hp : place i = some (off, size)) (hv : v.cells = l.toArray) (hl : l.length = size) (hfit : off + size ≤ L.length) :
    Instr.fill place L.toArray ((i, v) :: rest) = Instr.fill place (splice L off l).toArray rest := by
  subst hl
  rw [Instr.fill, hp]
  dsimp only
  rw [hv]
  have hs : ((l.toArray.size ≠ l.length) || decide (off + l.toArray.size > L.toArray.size)) = false := by simp; omega
  rw [if_neg (by simpa using hs)]
  congr 1
  obtain ⟨h1, h2⟩ := Great.foldl_set off l 0 L.toArray
  have he : (l.toArray.zipIdx.foldl (fun cs (x : Value × Nat) => match x with | (c, j) => cs.setIfInBounds (off + j) c) L.toArray) = ((l.zipIdx 0).foldl (fun cs (x : Value × Nat) => cs.setIfInBounds (off + x.2) x.1) L.toArray) := by
    rw [← Array.foldl_toList, Array.toList_zipIdx]
  rw [he]
  apply Array.ext_getElem?
  intro k
  rw [h2 k]
  simp only [List.getElem?_toArray, List.size_toArray, Nat.add_zero]
  rw [splice_get hfit]
/-- the zero of a node -/
def zeroNd : List Value := [.slice none 0 0, .slice none 0 0, .slice none 0 0, .slice none 0 0] ++ List.replicate 164 (.int .i64 0)
def plNd : List (Nat × Nat) := [(0, 4), (4, 162), (166, 1), (167, 1)]
set_option maxRecDepth 100000 in
theorem built_nd : ∀ parts, Try.prog.built 214 parts = Instr.fill (fun x => plNd.toArray[x]?) zeroNd.toArray parts := by
  intro parts
  rfl
set_option maxRecDepth 100000 in
theorem built_node {s p : List Value} {fr b : Int} (hs : s.length = 4) (hp : p.length = 162) : Try.prog.built 214 [(0, .agg s.toArray), (1, .agg p.toArray), (2, .int .i64 fr), (3, .int .i64 b)] = some (s ++ (p ++ [Value.int .i64 fr, Value.int .i64 b])).toArray := by
  have hz : zeroNd.length = 168 := rfl
  rw [built_nd, fill_cons (off := 0) (size := 4) (l := s) rfl rfl hs (by rw [hz]; omega)]
  have e1 : splice zeroNd 0 s = s ++ List.replicate 164 (Value.int .i64 0) := by
    unfold splice
    rw [List.take_zero, List.nil_append, Nat.zero_add, hs]
    rfl
  rw [e1, fill_cons (off := 4) (size := 162) (l := p) rfl rfl hp (by simp only [List.length_append, List.length_replicate, List.length_cons, List.length_nil, hs]; omega)]
  have e2 : splice (s ++ List.replicate 164 (Value.int .i64 0)) 4 p = s ++ (p ++ [Value.int .i64 0, .int .i64 0]) := by
    unfold splice
    rw [List.take_append_of_le_length (by omega), List.take_of_length_le (by omega), List.drop_append, List.drop_eq_nil_of_le (by omega), List.nil_append, hs, hp]
    rfl
  rw [e2, fill_cons (off := 166) (size := 1) (l := [.int .i64 fr]) rfl rfl rfl (by simp only [List.length_append, List.length_replicate, List.length_cons, List.length_nil, hs, hp]; omega)]
  have e3 : splice (s ++ (p ++ [Value.int .i64 0, .int .i64 0])) 166 [.int .i64 fr] = s ++ (p ++ [Value.int .i64 fr, .int .i64 0]) := by
    unfold splice
    rw [List.take_append, List.take_of_length_le (by omega), hs, List.take_append, List.take_of_length_le (by omega), hp, List.drop_append, List.drop_eq_nil_of_le (by simp; omega), hs, List.drop_append, List.drop_eq_nil_of_le (by simp; omega), hp]
    simp
  rw [e3, fill_cons (off := 167) (size := 1) (l := [.int .i64 b]) rfl rfl rfl (by simp only [List.length_append, List.length_replicate, List.length_cons, List.length_nil, hs, hp]; omega)]
  have e4 : splice (s ++ (p ++ [Value.int .i64 fr, .int .i64 0])) 167 [.int .i64 b] = s ++ (p ++ [Value.int .i64 fr, .int .i64 b]) := by
    unfold splice
    rw [List.take_append, List.take_of_length_le (by omega), hs, List.take_append, List.take_of_length_le (by omega), hp, List.drop_append, List.drop_eq_nil_of_le (by simp; omega), hs, List.drop_append, List.drop_eq_nil_of_le (by simp; omega), hp]
    simp
  rw [e4]
  rfl
set_option maxRecDepth 100000 in
theorem built_start {s : List Value} {fr : Int} (hs : s.length = 4) : Try.prog.built 214 [(0, .agg s.toArray), (2, .int .i64 fr)] = some (s ++ (List.replicate 162 (Value.int .i64 0) ++ [Value.int .i64 fr, Value.int .i64 0])).toArray := by
  have hz : zeroNd.length = 168 := rfl
  rw [built_nd, fill_cons (off := 0) (size := 4) (l := s) rfl rfl hs (by rw [hz]; omega)]
  have e1 : splice zeroNd 0 s = s ++ (List.replicate 162 (Value.int .i64 0) ++ [Value.int .i64 0, .int .i64 0]) := by
    unfold splice
    rw [List.take_zero, List.nil_append, Nat.zero_add, hs]
    rfl
  rw [e1, fill_cons (off := 166) (size := 1) (l := [.int .i64 fr]) rfl rfl rfl (by simp only [List.length_append, List.length_replicate, List.length_cons, List.length_nil, hs]; omega)]
  have hp : (List.replicate 162 (Value.int .i64 0)).length = 162 := by simp
  have e3 : ∀ p : List Value, p.length = 162 → splice (s ++ (p ++ [Value.int .i64 0, .int .i64 0])) 166 [.int .i64 fr] = s ++ (p ++ [Value.int .i64 fr, .int .i64 0]) := by
    intro p hp
    unfold splice
    rw [List.take_append, List.take_of_length_le (by omega), hs, List.take_append, List.take_of_length_le (by omega), hp, List.drop_append, List.drop_eq_nil_of_le (by simp; omega), hs, List.drop_append, List.drop_eq_nil_of_le (by simp; omega), hp]
    simp
  rw [e3 _ hp]
  rfl
/-- a node's cells -/
def nodL (h : SH) (n nw : Nat) (x : Nd) (fr b : Int) : List Value := stL h n nw ++ (picV x ++ [.int .i64 fr, .int .i64 b])
theorem padV_one {k : Nat} {xs : List Value} (h : ∀ v ∈ xs, v.oneCell' = true) : ∀ v ∈ padV k xs, v.oneCell' = true := by
  intro v hv
  unfold padV at hv
  rcases List.mem_append.1 hv with h1 | h1
  · exact h v h1
  · rw [(List.mem_replicate.1 h1).2]
    rfl
theorem picV_one (x : Nd) : ∀ v ∈ picV x, v.oneCell' = true := by
  intro v hv
  unfold picV at hv
  simp only [List.mem_append] at hv
  rcases hv with h | h | h | h | h
  · exact padV_one ints_oneF v h
  · exact padV_one ints_oneF v h
  · exact padV_one natsI_one v h
  · exact ints_oneF v h
  · exact ints_oneF v h
section
variable {l : Lit} {x : Nd}
theorem picV_lenG (h : GoodS l x.S) (hn : l.tn ≤ 4) (hw : l.wn ≤ 6) : (picV x).length = 162 := by
  unfold picV
  simp only [List.length_append]
  rw [padV_len (by rw [ints_len, h.w]; exact hw), padV_len (by rw [ints_len, h.r]; omega), padV_len (by rw [natsI_len, h.p]; exact hn), tL_len, lastL_len]
theorem nodL_len (hx : GoodS l x.S) (hn : l.tn ≤ 4) (hw : l.wn ≤ 6) (h : SH) (fr b : Int) : (nodL h l.tn l.wn x fr b).length = 168 := by
  unfold nodL
  rw [List.length_append, List.length_append, picV_lenG hx hn hw]
  rfl
theorem nodL_get (hx : GoodS l x.S) (hn : l.tn ≤ 4) (hw : l.wn ≤ 6) (h : SH) (fr b : Int) : (nodL h l.tn l.wn x fr b)[166]? = some (.int .i64 fr) ∧ (nodL h l.tn l.wn x fr b)[167]? = some (.int .i64 b) := by
  have h1 := picV_lenG hx hn hw
  unfold nodL
  constructor
  · rw [List.getElem?_append_right (by simp), show 166 - (stL h l.tn l.wn).length = 162 from rfl, List.getElem?_append_right (by omega), h1]
    rfl
  · rw [List.getElem?_append_right (by simp), show 167 - (stL h l.tn l.wn).length = 163 from rfl, List.getElem?_append_right (by omega), h1]
    rfl
theorem nodL_one (h : SH) (fr b : Int) : (nodL h l.tn l.wn x fr b).toArray.all (·.oneCell') = true := by
  suffices key : ∀ v ∈ nodL h l.tn l.wn x fr b, v.oneCell' = true by simpa using key
  intro v hv
  unfold nodL at hv
  simp only [List.mem_append] at hv
  rcases hv with h1 | h1 | h1
  · simp at h1
    rcases h1 with rfl | rfl | rfl | rfl <;> rfl
  · exact picV_one x v h1
  · simp at h1
    rcases h1 with rfl | rfl <;> rfl
/-- a node as way sees it -/
def mkWN (hx : GoodS l x.S) (hn : l.tn ≤ 4) (hw : l.wn ≤ 6) (h : SH) (fr b : Int) : WN :=
  ⟨nodL h l.tn l.wn x fr b, fr, b, x.way, nodL_len hx hn hw h fr b, (nodL_get hx hn hw h fr b).1, (nodL_get hx hn hw h fr b).2, nodL_one h fr b⟩
end
/-- what fill leaves is padded anew -/
theorem pad_drop {k m : Nat} {a b : List Value} (ha : a.length = m) (hb : b.length = m) : a ++ (padV k b).drop m = padV k a := by
  unfold padV
  rw [List.drop_append_of_le_length (by omega), List.drop_eq_nil_of_le (by omega), List.nil_append, ha, hb]
theorem pad_zero {k m : Nat} {a : List Value} (ha : a.length = m) (h : m ≤ k) : a ++ (List.replicate k (Value.int .i64 0)).drop m = padV k a := by
  unfold padV
  rw [List.drop_replicate, ha]
end Go.Proofs.Ytgbopmgeicokoaa
namespace Go.Proofs.Ytgbopmgeicokoaa
open Go.RowKit

def wfI (z : Int) : Prop := (Go.Lit.int .i64 z).wf = true
theorem wfI_of {z : Int} (h : -9223372036854775808 ≤ z ∧ z ≤ 9223372036854775807) : wfI z := by
  have : (decide (IntKind.i64.min ≤ z) && decide (z ≤ IntKind.i64.max)) = true := by
    rw [show IntKind.i64.min = -9223372036854775808 from by decide, show IntKind.i64.max = 9223372036854775807 from by decide]
    simp
    exact h
  exact this
structure WfS (S : LS) : Prop where
  w : ∀ z ∈ S.ws, wfI z
  r : ∀ z ∈ S.rs, wfI z
structure WfL (l : Lit) : Prop where
  w : ∀ z ∈ l.ws, wfI z
  v : ∀ y ∈ l.th, ∀ i ∈ y.2, wfI i.value
theorem wfI_get {L : List Int} (h : ∀ z ∈ L, wfI z) (i : Nat) : wfI (L.getD i 0) := by
  rw [List.getD_eq_getElem?_getD]
  cases hi : L[i]? with
  | none => exact wfI_of (by decide)
  | some z => exact h z (List.mem_of_getElem? hi)
theorem wfI_set {L : List Int} (h : ∀ z ∈ L, wfI z) (i : Nat) {v : Int} (hv : wfI v) : ∀ z ∈ L.set i v, wfI z := fun z hz => by
  rcases List.mem_or_eq_of_mem_set hz with h1 | h1
  · exact h z h1
  · rw [h1]; exact hv
theorem WfS.eff {S : LS} (h : WfS S) (t : Nat) {x : Ins} (hx : wfI x.value) : WfS (effS S t x) := by
  have hr : ∀ q, wfI (S.r t q) := fun q => wfI_get h.r _
  have hw : ∀ a, wfI (S.w a) := fun a => wfI_get h.w _
  unfold effS
  split
  · exact ⟨h.w, wfI_set h.r _ (hw _)⟩
  · split
    · refine ⟨wfI_set h.w _ ?_, h.r⟩
      split
      · exact hr _
      · exact hx
    · split
      · split
        · exact ⟨wfI_set h.w _ hx, wfI_set h.r _ (wfI_of (by decide))⟩
        · exact ⟨h.w, wfI_set h.r _ (wfI_of (by decide))⟩
      · split
        · exact ⟨h.w, wfI_set h.r _ hx⟩
        · split
          · exact ⟨h.w, wfI_set h.r _ (wf_wrap _ _)⟩
          · exact h
theorem WfS.turn {l : Lit} {S : LS} (h : WfS S) (hl : WfL l) (u : Tn) : WfS (turnS l S u) := by
  unfold turnS
  cases hp : pickS l S u with
  | none => exact h
  | some x =>
    have hv : wfI x.value := by
      unfold pickS at hp
      split at hp
      · have hm := List.mem_of_getElem? hp
        unfold codeOf at hm
        split at hm
        · rename_i y hy
          exact hl.v y (List.mem_of_getElem? hy) x hm
        · cases hm
      · cases hp
    have h9 := h.eff u.t.toNat hv
    exact ⟨h9.w, h9.r⟩
theorem WfS.first {l : Lit} (hl : WfL l) : WfS (firstS l) := ⟨hl.w, fun z hz => by
  rw [(List.mem_replicate.1 hz).2]
  exact wfI_of (by decide)⟩
theorem ints_ok {L : List Int} (h : ∀ z ∈ L, wfI z) : IntsOk (ints L) := fun v hv => by
  obtain ⟨z, hz, rfl⟩ := List.mem_map.1 hv
  exact ⟨z, rfl, h z hz⟩
theorem padV_ok {k : Nat} {xs : List Value} (h : IntsOk xs) : IntsOk (padV k xs) := fun v hv => by
  unfold padV at hv
  rcases List.mem_append.1 hv with h1 | h1
  · exact h v h1
  · rw [(List.mem_replicate.1 h1).2]
    exact ⟨0, rfl, wfI_of (by decide)⟩
theorem picV_ok {l : Lit} {x : Nd} (hx : OkN l x) (hw : WfS x.S) (hok : okLit l = true) (hth : l.th.length = l.tn) (hcl : ∀ y ∈ l.th, y.2.length = y.1.2.1) (hen : x.es.length ≤ 100000) : IntsOk (picV x) := by
  have hs := tsAt_small x.es x.es.length (Nat.le_refl _) (by omega)
  intro v hv
  unfold picV at hv
  simp only [List.mem_append] at hv
  rcases hv with h | h | h | h | h
  · exact padV_ok (ints_ok hw.w) v h
  · exact padV_ok (ints_ok hw.r) v h
  · refine padV_ok (fun u hu => ?_) v h
    obtain ⟨p, hp, rfl⟩ := List.mem_map.1 hu
    refine ⟨p, rfl, wfI_of ?_⟩
    obtain ⟨t, ht⟩ := List.mem_iff_getElem?.1 hp
    have htn : t < l.tn := by
      have := (List.getElem?_eq_some_iff.1 ht).1
      rw [hx.good.p] at this
      exact this
    have hle := hx.good.le t htn
    have hpt : x.S.p t = p := by unfold LS.p; rw [List.getD_eq_getElem?_getD, ht]; rfl
    obtain ⟨y, hy⟩ := at_lt (show t < l.th.length by rw [hth]; exact htn)
    have h10 := (okLit_code hok hy).1
    have hc := hcl y (List.mem_of_getElem? hy)
    rw [codeOf_at hy, hc, hpt] at hle
    omega
  · unfold tL at h
    refine ints_ok (fun z hz => ?_) v h
    obtain ⟨c, _, rfl⟩ := List.mem_map.1 hz
    unfold tC
    refine wfI_of ?_
    split
    · have h1 := hs.m0 (c / 4) (c % 4)
      have h2 := hs.mj (c / 4) (c % 4)
      have h1' : 0 ≤ (xAt x.es).m (c / 4) (c % 4) := h1
      have h2' : (xAt x.es).m (c / 4) (c % 4) ≤ x.es.length := h2
      omega
    · have h1 := hs.w0 ((c - 16) / 4) ((c - 16) % 4)
      have h2 := hs.wj ((c - 16) / 4) ((c - 16) % 4)
      have h1' : 0 ≤ (xAt x.es).wd ((c - 16) / 4) ((c - 16) % 4) := h1
      have h2' : (xAt x.es).wd ((c - 16) / 4) ((c - 16) % 4) ≤ x.es.length := h2
      omega
  · unfold lastL at h
    refine ints_ok (fun z hz => ?_) v h
    obtain ⟨c, _, rfl⟩ := List.mem_map.1 hz
    unfold lastC
    refine wfI_of ?_
    rcases (lastAt_spec x.es (kdOf (c % 4)) (c / 16) (c / 4 % 4) (by omega) x.es.length (Nat.le_refl _)).2 with h0 | ⟨i, e, hi, he, _, _, _, hv9⟩
    · have h0' : lastE x.es (kdOf (c % 4)) (c / 16) (c / 4 % 4) = 0 := h0
      omega
    · have hv' : lastE x.es (kdOf (c % 4)) (c / 16) (c / 4 % 4) = ckAt x.es i e.t := hv9
      rw [hv', ckAt_own he]
      have h3 := tsAt_small x.es (i + 1) (by omega) (by omega)
      have h4 := h3.m0 e.t e.t
      have h5 := h3.mj e.t e.t
      push_cast at h5
      omega
end Go.Proofs.Ytgbopmgeicokoaa
namespace Go.Proofs.Ytgbopmgeicokoaa
open Go.RowKit Go.Maps
set_option linter.unusedSimpArgs false
set_option linter.unusedVariables false

section
variable {P : Program} {ρ : Operand → Value} {o : Oper} {w : World}
theorem exec_build (t : TypeId) (parts : Array (Nat × Operand)) (ho : o.op = .build t parts) (cells : Array Value) (hf : P.built t (parts.map fun (i, x) => (i, ρ x)).toList = some cells) : (execOp ρ o).run P w = .ok (.value (.agg cells)) w := by
  unfold execOp
  simp only [ho, Sem.run_bind, run_build w t _ cells hf, Result.andThen_ok, Sem.run_pure]
theorem exec_load_mid (ty : TypeId) (x : Operand) (ho : o.op = .load ty x) (b off : Nat) (hx : ρ x = .pointer (some ⟨b, off, none⟩)) (cs : List Value) (d : TypeDesc) (hc : w.rangeAt b off cs)
    (hu : P.underlying ty = some d) (hd : d.isRow = true) (hi : (P.info? ty).map (·.size) = some cs.length) : (execOp ρ o).run P w = .ok (.value (.agg cs.toArray)) w := by
  unfold execOp
  simp only [ho, hx, Instr.loadAt, Instr.sureAddr, Sem.run_bind, Sem.run_pure, Result.andThen_ok, run_loadVar_mid w b off ty cs d hc hu hd hi]
end
theorem zero_nd (w : World) : (zeroValue 214).run Try.prog w = .ok (.agg zeroNd.toArray) w := by
  have h : (Try.prog.info? 214).map (fun i => (i.zero, i.size)) = some (some (.agg zeroNd.toArray), 168) := by kernel_rfl
  exact (zero_of_info h).1 w
theorem exec_alloc_nd {ρ : Operand → Value} {o : Oper} {w : World} (ho : o.op = .alloc 214) : (execOp ρ o).run Try.prog w = .ok (.value (.pointer (some ⟨w.heap.size, 0, none⟩))) (w.alloc (.cells zeroNd.toArray 214)) := by
  unfold execOp
  simp only [ho, Sem.run_bind]
  rw [show (Instr.alloc 214 true (.tuple #[])).run Try.prog w = .ok (.pointer (some ⟨w.heap.size, 0, none⟩)) (w.alloc (.cells zeroNd.toArray 214)) from by
    simp [Instr.alloc, newVar, zero_nd, Value.cells, newRow]
    rfl]
  rfl
theorem wp_alloc_nd {o : Oper} {a : Act} {w : World} {K : Act → World → Prop} {Q : Exit → Act → World → Prop} (ho : o.op = .alloc 214) (h : K (a.put o.dst (.pointer (some ⟨w.heap.size, 0, none⟩))) (w.alloc (.cells zeroNd.toArray 214))) : o.wp Try.prog a w K Q := by
  unfold Oper.wp
  rw [exec_alloc_nd ho, Oper.upon_value]
  exact h
theorem info_nd : (Try.prog.info? 214).map (fun i => (i.zero, i.size, i.bytes)) = some (some (.agg zeroNd.toArray), 168, 1408) := by kernel_rfl
/-- a slice of one node -/
theorem wpList_nodSlice {ops : Array Oper} {rest : List Oper} {o : Oper} {a : Act} {w : World} {Q : Exit → Act → World → Prop} (hgd : o.guard = none) (x : Operand) (ho : o.op = .buildSlice 215 1 #[(0, x)]) (cs : List Value) (hl : cs.length = 168) (hx : a.eval x = .agg cs.toArray)
    (h : wpList Try.prog ops Q rest (a.put o.dst (.slice (some ⟨w.heap.size, 0, none⟩) 1 1)) (w.alloc (.cells cs.toArray 214))) : wpList Try.prog ops Q (o :: rest) a w := by
  obtain ⟨i, hi, hz, hs, _⟩ := info_parts info_nd
  refine wpList_buildSlice hgd 215 214 1 #[(0, x)] ho cs.toArray i (.agg zeroNd.toArray) Try.underlying215 hi hz (by rw [hs]; decide) (by rw [hs]; decide) ?_ h
  rw [Array.toList_map, hs]
  show Instr.fill _ _ [(0, a.eval x)] = _
  rw [hx]
  have := Go.Great.fill_whole (s := 168) (by decide) [.agg cs.toArray] ((Array.range (1 * 168)).map ((Value.agg zeroNd.toArray).cells[· % (Value.agg zeroNd.toArray).cells.size]!)) (by intro v hv; simp at hv; subst hv; simpa [Value.cells] using hl) (by simp)
  simpa [Value.cells] using this
set_option maxRecDepth 100000 in
theorem wpList_build_start {ops : Array Oper} {rest : List Oper} {o : Oper} {a : Act} {w : World} {Q : Exit → Act → World → Prop} (hgd : o.guard = none) (x y : Operand) (ho : o.op = .build 214 #[(0, x), (2, y)]) (s : List Value) (hs : s.length = 4) (fr : Int) (hx : a.eval x = .agg s.toArray) (hy : a.eval y = .int .i64 fr) (L0 : List Value) (hL0 : L0 = s ++ (List.replicate 162 (Value.int .i64 0) ++ [Value.int .i64 fr, Value.int .i64 0]))
    (h : wpList Try.prog ops Q rest (a.put o.dst (.agg L0.toArray)) w) : wpList Try.prog ops Q (o :: rest) a w := by
  refine Go.wpList_buildTo hgd 214 _ ho _ rfl _ ?_ h
  rw [Array.toList_map]
  show Try.prog.built 214 [(0, a.eval x), (2, a.eval y)] = _
  rw [hx, hy, hL0]
  exact built_start hs
set_option maxRecDepth 100000 in
theorem exec_build_node {ρ : Operand → Value} {o : Oper} {w : World} (x y z u : Operand) (ho : o.op = .build 214 #[(0, x), (1, y), (2, z), (3, u)]) (s p : List Value) (hs : s.length = 4) (hp : p.length = 162) (fr b : Int) (hx : ρ x = .agg s.toArray) (hy : ρ y = .agg p.toArray) (hz : ρ z = .int .i64 fr) (hu : ρ u = .int .i64 b) :
    (execOp ρ o).run Try.prog w = .ok (.value (.agg (s ++ (p ++ [Value.int .i64 fr, Value.int .i64 b])).toArray)) w := by
  refine exec_build _ _ ho _ ?_
  rw [Array.toList_map]
  show Try.prog.built 214 [(0, ρ x), (1, ρ y), (2, ρ z), (3, ρ u)] = _
  rw [hx, hy, hz, hu]
  exact built_node hs hp
theorem size_pic : (Try.prog.info? 212).map (·.size) = some 162 := by kernel_rfl
/-- the picture in a node's block -/
theorem Blk.pic {W : World} {g : Nat} {s p r : List Value} (h : Blk W g 214 (s ++ (p ++ r))) (hs : s.length = 4) : W.rangeAt g 4 p := fun j v hv => by
  have hj := (List.getElem?_eq_some_iff.1 hv).1
  refine h.cell ?_
  rw [List.getElem?_append_right (by omega), hs, List.getElem?_append_left (by omega), show 4 + j - 4 = j by omega]
  exact hv
theorem ParOf.mono {ws : List WN} {p q : WN} (h : ParOf ws p) : ParOf (ws ++ [q]) p := by
  rcases h with h | ⟨a, t, pq, h1, h2, h3, h4⟩
  · exact Or.inl h
  · exact Or.inr ⟨a, t, pq, h1, h2, by rw [List.getElem?_append_left (List.getElem?_eq_some_iff.1 h3).1]; exact h3, h4⟩
theorem Rw.ngm {W : World} {g gm t sz n k m : Nat} {xs : List Value} {ks : List (List Value)} (h : Rw W g t sz n k xs) (hm : PicMap W gm m ks) : g ≠ gm := by
  obtain ⟨_, cs, h1, _⟩ := h
  obtain ⟨D, ⟨es, clock, h2, _⟩, _⟩ := hm
  rintro rfl
  unfold Blk at h1
  rw [h1] at h2
  cases h2
theorem Blk.ngm {W : World} {g gm m : Nat} {t : TypeId} {xs : List Value} {ks : List (List Value)} (h1 : Blk W g t xs) (hm : PicMap W gm m ks) : g ≠ gm := by
  obtain ⟨D, ⟨es, clock, h2, _⟩, _⟩ := hm
  rintro rfl
  unfold Blk at h1
  rw [h1] at h2
  cases h2
section
variable {W W' : World} {h : SH} {n nw : Nat} {S : LS}
theorem StAt.gbr {row : Option Nat} (s : StAt W h n nw S) (hg : W.grownBy W' row) (h1 : ∀ g, (g = h.gw ∨ g = h.gr ∨ g = h.gp ∨ g = h.gb) → some g ≠ row) : StAt W' h n nw S :=
  ⟨s.w.grown hg (h1 _ (Or.inl rfl)), s.r.grown hg (h1 _ (Or.inr (Or.inl rfl))), s.p.grown hg (h1 _ (Or.inr (Or.inr (Or.inl rfl)))), s.b.grown hg (h1 _ (Or.inr (Or.inr (Or.inr rfl)))), s.ne⟩
theorem StAt.gbm {gm m : Nat} {ks : List (List Value)} (s : StAt W h n nw S) (hm : PicMap W gm m ks) (hg : W.grownBy W' (some gm)) : StAt W' h n nw S := s.gbr hg (by
  rintro g (rfl | rfl | rfl | rfl) e <;> injection e with e
  · exact s.w.ngm hm e
  · exact s.r.ngm hm e
  · exact s.p.ngm hm e
  · exact s.b.ngm hm e)
theorem StAt.gbo {B m sz : Nat} {v : Value} {xs : List Value} (s : StAt W h n nw S) (ho : W.ownsRow B 214 sz v m xs) (hg : W.grownBy W' v.ownBlock) : StAt W' h n nw S := s.gbr hg (by
  rintro g (rfl | rfl | rfl | rfl)
  · exact own_nr ho s.w (by decide)
  · exact own_nr ho s.r (by decide)
  · exact own_nr ho s.p (by decide)
  · exact own_nr ho s.b (by decide))
theorem StAt.keepN (s : StAt W h n nw S) {g : Nat} {cs : List Value} (hb : Blk W g 214 cs) (hf : Fr (fun q => q = g) W W') : StAt W' h n nw S :=
  ⟨s.w.kept (hf.block _ s.w.lt (fun e => s.w.nb hb (by decide) e)), s.r.kept (hf.block _ s.r.lt (fun e => s.r.nb hb (by decide) e)), s.p.kept (hf.block _ s.p.lt (fun e => s.p.nb hb (by decide) e)), s.b.kept (hf.block _ s.b.lt (fun e => s.b.nb hb (by decide) e)), s.ne⟩
end
theorem own_keepX {W W' : World} {B s n : Nat} {e : TypeId} {v : Value} {xs : List Value} (h : W.ownsRow B e s v n xs) (hk : ∀ g, v.ownBlock = some g → W'.heap[g]? = W.heap[g]?) : W'.ownsRow B e s v n xs := by
  obtain ⟨h1, h2⟩ := h
  refine ⟨h1, h2.imp id fun ⟨g, cap, cur, hv, hB, hg, h3⟩ => ⟨g, cap, cur, hv, hB, ?_, h3⟩⟩
  rw [hk g (by rw [hv]; rfl)]
  exact hg
/-- what stands in the loops: nodes in memory, the pictures seen -/
structure PfI (l : Lit) (w W : World) (gm : Nat) (ns : List Nd) (hs : List SH) (ws : List WN) (vN : Value) : Prop where
  bel : Below w.heap.size w W
  gmB : w.heap.size < gm
  lit : Blk W w.heap.size 101 (litL l)
  hl : hs.length = ns.length
  wl : ws.length = ns.length
  own : W.ownsRow w.heap.size 214 168 vN ns.length (ws.flatMap WN.cs)
  node : ∀ (j : Nat) (x : Nd) (h : SH) (p : WN), ns[j]? = some x → hs[j]? = some h → ws[j]? = some p → p.cs = nodL h l.tn l.wn x p.fr p.by_ ∧ p.wy = x.way ∧ StAt W h l.tn l.wn x.S ∧ WfS x.S
  par : ∀ (j : Nat) (p : WN), ws[j]? = some p → ParOf ws p
  ok : OkNs l ns
  map : PicMap W gm ns.length (ns.map picV)
  ap : some gm ≠ vN.ownBlock
section
variable {l : Lit} {w W W' : World} {gm : Nat} {ns : List Nd} {hs : List SH} {ws : List WN} {vN : Value}
theorem PfI.on (H : PfI l w W gm ns hs ws vN) (hb : Below W.heap.size W W') : PfI l w W' gm ns hs ws vN where
  bel := H.bel.trans (hb.mono H.bel.size)
  gmB := H.gmB
  lit := H.lit.below hb H.lit.lt
  hl := H.hl
  wl := H.wl
  own := H.own.below hb
  node := fun j x h p h1 h2 h3 => by
    obtain ⟨a, b, c, d⟩ := H.node j x h p h1 h2 h3
    exact ⟨a, b, c.on hb, d⟩
  par := H.par
  ok := H.ok
  map := H.map.on hb
  ap := H.ap
/-- a node's own block is written -/
theorem PfI.keepN (H : PfI l w W gm ns hs ws vN) {g : Nat} {cs : List Value} (hb : Blk W g 214 cs) (hg : w.heap.size < g) (hgo : some g ≠ vN.ownBlock) (hf : Fr (fun q => q = g) W W') : PfI l w W' gm ns hs ws vN where
  bel := H.bel.trans (hf.to_below H.bel.size (fun q hq => by rw [hq]; omega))
  gmB := H.gmB
  lit := H.lit.kept (hf.block _ H.lit.lt (fun e => by have e' : w.heap.size = g := e; omega))
  hl := H.hl
  wl := H.wl
  own := own_keepX H.own fun q hq => hf.block q (H.own.lt q hq).2 (fun e => hgo (by rw [hq]; exact congrArg some (show g = q from Eq.symm e)))
  node := fun j x h p h1 h2 h3 => by
    obtain ⟨a, b, c, d⟩ := H.node j x h p h1 h2 h3
    exact ⟨a, b, c.keepN hb hf, d⟩
  par := H.par
  ok := H.ok
  map := H.map.kept (row := some g) ⟨hf.os, hf.tape, hf.output, hf.size, fun q hq hne => hf.block q hq (fun e => hne (by rw [show q = g from e]))⟩ (fun e => by injection e with e; exact hb.ngm H.map e.symm)
  ap := H.ap
/-- a picture is put into the map -/
theorem PfI.put {pic : List Value} (H : PfI l w W gm ns hs ws vN) (hm : PicMap W' gm (ns.length + 1) (ns.map picV ++ [pic])) (hg : W.grownBy W' (some gm)) :
    Below w.heap.size w W' ∧ Blk W' w.heap.size 101 (litL l) ∧ W'.ownsRow w.heap.size 214 168 vN ns.length (ws.flatMap WN.cs) ∧
    (∀ (j : Nat) (x : Nd) (h : SH) (p : WN), ns[j]? = some x → hs[j]? = some h → ws[j]? = some p → p.cs = nodL h l.tn l.wn x p.fr p.by_ ∧ p.wy = x.way ∧ StAt W' h l.tn l.wn x.S ∧ WfS x.S) := by
  have hgm := H.gmB
  refine ⟨H.bel.grown hg H.bel.size (fun q hq => by injection hq with hq; omega), H.lit.grown hg (fun e => by injection e with e; omega), H.own.kept hg ?_, fun j x h p h1 h2 h3 => ?_⟩
  · cases hv : vN.ownBlock with
    | none => exact Or.inl rfl
    | some q => exact Or.inr (fun e => H.ap (by rw [hv, e]))
  · obtain ⟨a, b, c, d⟩ := H.node j x h p h1 h2 h3
    exact ⟨a, b, c.gbm H.map hg, d⟩
/-- one node more -/
theorem PfI.snoc {k : Nd} {p : WN} {h : SH} {W2 W3 : World} {v' : Value} (H : PfI l w W gm ns hs ws vN)
    (hP : Below w.heap.size w W' ∧ Blk W' w.heap.size 101 (litL l) ∧ W'.ownsRow w.heap.size 214 168 vN ns.length (ws.flatMap WN.cs) ∧
      (∀ (j : Nat) (x : Nd) (h : SH) (p : WN), ns[j]? = some x → hs[j]? = some h → ws[j]? = some p → p.cs = nodL h l.tn l.wn x p.fr p.by_ ∧ p.wy = x.way ∧ StAt W' h l.tn l.wn x.S ∧ WfS x.S))
    (hm : PicMap W' gm (ns.length + 1) (ns.map picV ++ [picV k])) (hst : StAt W' h l.tn l.wn k.S) (hw : WfS k.S) (hpc : p.cs = nodL h l.tn l.wn k p.fr p.by_) (hpw : p.wy = k.way) (hpar : ParOf ws p) (hok : OkNs l (ns ++ [k]))
    (ha : W'.grownBy W2 vN.ownBlock) (hg : W2.grownBy W3 vN.ownBlock) (ho : W3.ownsRow w.heap.size 214 168 v' (ns.length + 1) (ws.flatMap WN.cs ++ p.cs)) (hat : v'.ownBlock = vN.ownBlock ∨ v'.ownBlock = some W2.heap.size) :
    PfI l w W3 gm (ns ++ [k]) (hs ++ [h]) (ws ++ [p]) v' := by
  obtain ⟨p1, p2, p3, p4⟩ := hP
  have HG := ha.trans hg
  exact {
    bel := p1.grown HG p1.size (fun q hq => (p3.lt q hq).1)
    gmB := H.gmB
    lit := p2.grown HG (own_nb p3 p2 (by decide))
    hl := by simp [H.hl]
    wl := by simp [H.wl]
    own := by
      rw [List.flatMap_append, List.flatMap_cons, List.flatMap_nil, List.append_nil, List.length_append]
      exact ho
    node := fun j x h' q e1 e2 e3 => by
      by_cases hj : j < ns.length
      · rw [List.getElem?_append_left hj] at e1
        rw [List.getElem?_append_left (by rw [H.hl]; exact hj)] at e2
        rw [List.getElem?_append_left (by rw [H.wl]; exact hj)] at e3
        obtain ⟨a, b, c, d⟩ := p4 j x h' q e1 e2 e3
        exact ⟨a, b, c.gbo p3 HG, d⟩
      · have hj2 : j = ns.length := by
          have := (List.getElem?_eq_some_iff.1 e1).1
          simp at this
          omega
        subst hj2
        rw [List.getElem?_append_right (Nat.le_refl _), Nat.sub_self] at e1
        rw [← H.hl, List.getElem?_append_right (Nat.le_refl _), Nat.sub_self] at e2
        rw [← H.wl, List.getElem?_append_right (Nat.le_refl _), Nat.sub_self] at e3
        simp at e1 e2 e3
        subst e1 e2 e3
        exact ⟨hpc, hpw, hst.gbo p3 HG, hw⟩
    par := fun j q e3 => by
      by_cases hj : j < ws.length
      · rw [List.getElem?_append_left hj] at e3
        exact (H.par j q e3).mono
      · have hj2 : j = ws.length := by
          have := (List.getElem?_eq_some_iff.1 e3).1
          simp at this
          omega
        subst hj2
        rw [List.getElem?_append_right (Nat.le_refl _), Nat.sub_self] at e3
        simp at e3
        subst e3
        exact hpar.mono
    ok := hok
    map := by
      rw [List.map_append, List.length_append]
      exact hm.kept HG H.ap
    ap := by
      rcases hat with e | e
      · rw [e]; exact H.ap
      · rw [e]
        intro e9
        injection e9 with e9
        have := hm.lt
        have := ha.size
        omega }
end
theorem nodL_oneL {x : Nd} (h : SH) {n nw : Nat} (fr b : Int) : ∀ v ∈ nodL h n nw x fr b, v.oneCell' = true := by
  intro v hv
  unfold nodL at hv
  simp only [List.mem_append] at hv
  rcases hv with h1 | h1 | h1
  · simp at h1
    rcases h1 with rfl | rfl | rfl | rfl <;> rfl
  · exact picV_one x v h1
  · simp at h1
    rcases h1 with rfl | rfl <;> rfl
end Go.Proofs.Ytgbopmgeicokoaa
