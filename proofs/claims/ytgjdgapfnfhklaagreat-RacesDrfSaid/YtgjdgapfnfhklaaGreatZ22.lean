/-
Going through all states of a litmus program, breadth first,
-/
import Derived.Test.YtgjdgapfnfhklaaGreatRst
import Derived.Test.YtgjdgapfnfhklaaGreatPar
import Derived.Test.YtgjdgapfnfhklaaGreatZ20
import Derived.BigQuiet
import Derived.Deep.DeepCutAuto
set_option linter.unusedSimpArgs false
set_option linter.unusedVariables false
set_option maxRecDepth 100000
set_option maxHeartbeats 8000000
namespace Go.Proofs.YtgjdgapfnfhklaaGreat
open Go.RowKit
def hitK (kd : Int) (e : Ev) : Bool := decide (e.k = kd) || (decide (kd = 9) && (decide (e.k = 3) && e.wr))
def lastAt (es : List Ev) (kd : Int) : Nat -> Nat -> Nat -> Int
 | 0 => fun _ _ => 0
 | j + 1 => match es[j]? with
  | some e => fun a t => if hitK kd e = true /\ a = e.a /\ t = e.t then ckAt es j e.t else lastAt es kd j a t
  | none => lastAt es kd j
def lastE (es : List Ev) (kd : Int) : Nat -> Nat -> Int := lastAt es kd es.length
theorem lastAt_next {es : List Ev} {kd : Int} {j : Nat} {e : Ev} (h : es[j]? = some e) (a t : Nat) : lastAt es kd (j + 1) a t = if hitK kd e = true /\ a = e.a /\ t = e.t then ckAt es j e.t else lastAt es kd j a t := by rw [lastAt, h]
theorem lastAt_app (es fs : List Ev) (kd : Int) : ∀ j, j <= es.length -> ∀ a t, lastAt (es ++ fs) kd j a t = lastAt es kd j a t
 | 0, _, _, _ => rfl
 | j + 1, h, a, t => by
  obtain ⟨e, he⟩ := at_lt (show j < es.length by omega)
  rw [lastAt_next he, lastAt_next (e := e) (by rw [List.getElem?_append_left (by omega)]; exact he), lastAt_app es fs kd j (by omega), ckAt_app es fs j (by omega)]
theorem lastE_snoc (es : List Ev) (kd : Int) (e : Ev) (a t : Nat) : lastE (es ++ [e]) kd a t = if hitK kd e = true /\ a = e.a /\ t = e.t then tickM (xAt es) e e.t else lastE es kd a t := by
 unfold lastE
 rw [List.length_append, List.length_singleton, lastAt_next (e := e) (by simp), ckAt_snoc, lastAt_app es [e] kd _ (Nat.le_refl _)]
def EvWf (e : Ev) : Prop := (e.k = 1 /\ e.wr = false) ∨ (e.k = 2 /\ e.wr = true) ∨ e.k = 3
theorem eventS_wf {S : LS} {t : Nat} {x : Ins} {e : Ev} (h : eventS S t x = some e) : EvWf e := by
 unfold eventS at h
 split at h
 ·injection h with h; subst h; exact Or.inl ⟨rfl, rfl⟩
 ·split at h
  ·injection h with h; subst h; exact Or.inr (Or.inl ⟨rfl, rfl⟩)
  ·split at h
   ·injection h with h; subst h; exact Or.inr (Or.inr rfl)
   ·cases h
theorem evOf_wf {l : Lit} {S : LS} {u : Tn} {e : Ev} (h : evOf l S u = some e) : EvWf e := by
 unfold evOf at h
 split at h
 ·exact eventS_wf h
 ·cases h
structure SmallT (x : TS) (j : Nat) : Prop where
 m0 : ∀ t i, 0 <= x.m t i
 mj : ∀ t i, x.m t i <= j
 w0 : ∀ a i, 0 <= x.wd a i
 wj : ∀ a i, x.wd a i <= j
theorem wrap_small {z : Int} (h0 : 0 <= z) (h : z <= 1000000) : IntKind.i64.wrap z = z := IntWalk.i64_in _ (by omega)
theorem bumpW_small {x : TS} {j : Nat} (h : SmallT x j) (hj : j < 1000000) (t q i : Nat) : bumpW (x.m t) q i = if i = q then x.m t i + 1 else x.m t i := by
 unfold bumpW
 split
 ·rw [wrap_small (by have := h.m0 t i; omega) (by have := h.mj t i; omega)]
 ·rfl
theorem tickM_ge {x : TS} {j : Nat} (h : SmallT x j) (hj : j < 1000000) (e : Ev) (i : Nat) : x.m e.t i <= tickM x e i /\ tickM x e i <= j + 1 := by
 have h1 := bumpW_small h hj e.t e.t i
 have hm := h.mj e.t i
 have hw := h.wj e.a i
 have hb : x.m e.t i <= bumpW (x.m e.t) e.t i /\ bumpW (x.m e.t) e.t i <= j + 1 := by
  rw [h1]
  split <;> omega
 unfold tickM
 split
 ·unfold maxC
  split <;> omega
 ·exact hb
theorem tickS_small {x : TS} {j : Nat} (h : SmallT x j) (hj : j < 1000000) (e : Ev) : SmallT (tickS x e) (j + 1) := by
 have hg := tickM_ge h hj e
 refine ⟨fun t i => ?_, fun t i => ?_, fun a i => ?_, fun a i => ?_⟩
 ·show 0 <= (if t = e.t then tickM x e else x.m t) i
  have := h.m0 e.t i
  have := (hg i).1
  split
  ·omega
  ·exact h.m0 t i
 ·show (if t = e.t then tickM x e else x.m t) i <= _
  have := (hg i).2
  split
  ·push_cast; omega
  ·have := h.mj t i; push_cast; omega
 ·show 0 <= (if e.k = 3 /\ e.wr = true /\ a = e.a then tickM x e else x.wd a) i
  have := h.m0 e.t i
  have := (hg i).1
  split
  ·omega
  ·exact h.w0 a i
 ·show (if e.k = 3 /\ e.wr = true /\ a = e.a then tickM x e else x.wd a) i <= _
  have := (hg i).2
  split
  ·push_cast; omega
  ·have := h.wj a i; push_cast; omega
theorem tsAt_small (es : List Ev) : ∀ j, j <= es.length -> j <= 1000000 -> SmallT (tsAt es j) j
 | 0, _, _ => ⟨fun _ _ => Int.le_refl _, fun _ _ => Int.le_refl _, fun _ _ => Int.le_refl _, fun _ _ => Int.le_refl _⟩
 | j + 1, h, h2 => by
  obtain ⟨e, he⟩ := at_lt (show j < es.length by omega)
  rw [tsAt_next he]
  exact tickS_small (tsAt_small es j (by omega) (by omega)) (by omega) e
theorem tsAt_mono (es : List Ev) (t i : Nat) : ∀ d j, j + d <= es.length -> j + d <= 1000000 -> (tsAt es j).m t i <= (tsAt es (j + d)).m t i
 | 0, _, _, _ => Int.le_refl _
 | d + 1, j, h, h2 => by
  have ih := tsAt_mono es t i d j (by omega) (by omega)
  obtain ⟨e, he⟩ := at_lt (show j + d < es.length by omega)
  refine Int.le_trans ih ?_
  rw [<- Nat.add_assoc, tsAt_next he]
  show _ <= (if t = e.t then tickM (tsAt es (j + d)) e else (tsAt es (j + d)).m t) i
  split
  ·rename_i ht
   rw [ht]
   exact (tickM_ge (tsAt_small es (j + d) (by omega) (by omega)) (by omega) e i).1
  ·exact Int.le_refl _
theorem ckAt_own {es : List Ev} {j : Nat} {e : Ev} (h : es[j]? = some e) : ckAt es j e.t = (tsAt es (j + 1)).m e.t e.t := by
 rw [ckAt_at h, tsAt_next h]
 show _ = (if e.t = e.t then tickM (tsAt es j) e else _) e.t
 rw [if_pos rfl]
theorem ckAt_mono {es : List Ev} {i j : Nat} {a b : Ev} (ha : es[i]? = some a) (hb : es[j]? = some b) (hij : i <= j) (ht : a.t = b.t) (hl : es.length <= 1000000) : ckAt es i a.t <= ckAt es j b.t := by
 rw [ckAt_own ha, ckAt_own hb, ht]
 have hj := (List.getElem?_eq_some_iff.1 hb).1
 have := tsAt_mono es b.t b.t (j - i) (i + 1) (by omega) (by omega)
 rwa [show i + 1 + (j - i) = j + 1 from by omega] at this
theorem lastAt_spec (es : List Ev) (kd : Int) (a t : Nat) (hl : es.length <= 1000000) : ∀ j, j <= es.length ->
  (∀ i e, i < j -> es[i]? = some e -> hitK kd e = true -> e.a = a -> e.t = t -> ckAt es i e.t <= lastAt es kd j a t) /\
  (lastAt es kd j a t = 0 ∨ ∃ i e, i < j /\ es[i]? = some e /\ hitK kd e = true /\ e.a = a /\ e.t = t /\ lastAt es kd j a t = ckAt es i e.t)
 | 0, _ => ⟨fun i e hi => absurd hi (by omega), Or.inl rfl⟩
 | j + 1, h => by
  obtain ⟨ih1, ih2⟩ := lastAt_spec es kd a t hl j (by omega)
  obtain ⟨b, hb⟩ := at_lt (show j < es.length by omega)
  rw [lastAt_next hb]
  by_cases hc : hitK kd b = true /\ a = b.a /\ t = b.t
  ·rw [if_pos hc]
   refine ⟨fun i e hi he hk ha ht => ckAt_mono he hb (by omega) (by rw [ht]; exact hc.2.2) hl, Or.inr ⟨j, b, by omega, hb, hc.1, hc.2.1.symm, hc.2.2.symm, rfl⟩⟩
  ·rw [if_neg hc]
   refine ⟨fun i e hi he hk ha ht => ?_, ?_⟩
   ·by_cases hij : i = j
    ·subst hij
     rw [hb] at he
     injection he with he
     subst he
     exact absurd ⟨hk, ha.symm, ht.symm⟩ hc
    ·exact ih1 i e (by omega) he hk ha ht
   ·rcases ih2 with h0 | ⟨i, e, hi, r⟩
    ·exact Or.inl h0
    ·exact Or.inr ⟨i, e, by omega, r⟩
theorem late_iff {es : List Ev} {kd : Int} {a t : Nat} {z : Int} (hl : es.length <= 1000000) (hz : 0 <= z) : z < lastE es kd a t ↔ ∃ i e, es[i]? = some e /\ hitK kd e = true /\ e.a = a /\ e.t = t /\ z < ckAt es i e.t := by
 obtain ⟨h1, h2⟩ := lastAt_spec es kd a t hl es.length (Nat.le_refl _)
 constructor
 ·intro h
  rcases h2 with h0 | ⟨i, e, _, he, hk, ha, ht, hv⟩
  ·unfold lastE at h
   omega
  ·exact ⟨i, e, he, hk, ha, ht, by unfold lastE at h; omega⟩
 ·rintro ⟨i, e, he, hk, ha, ht, hv⟩
  have := h1 i e (List.getElem?_eq_some_iff.1 he).1 he hk ha ht
  unfold lastE
  omega
def lateB (x : TS) (la : Int -> Nat -> Nat -> Int) (e : Ev) (t : Nat) : Bool :=
 if e.k = 1 then decide (tickM x e t < la 2 e.a t) || decide (tickM x e t < la 9 e.a t)
 else if e.k = 2 then decide (tickM x e t < la 1 e.a t) || decide (tickM x e t < la 2 e.a t) || decide (tickM x e t < la 3 e.a t)
 else decide (tickM x e t < la 2 e.a t) || (e.wr && decide (tickM x e t < la 1 e.a t))
def foundB (x : TS) (la : Int -> Nat -> Nat -> Int) (e : Ev) : Nat -> Bool
 | 0 => false
 | t + 1 => foundB x la e t || (!decide (t = e.t) && lateB x la e t)
theorem foundB_iff (x : TS) (la : Int -> Nat -> Nat -> Int) (e : Ev) : ∀ n, foundB x la e n = true ↔ ∃ t, t < n /\ t ≠ e.t /\ lateB x la e t = true
 | 0 => by simp [foundB]
 | n + 1 => by
  rw [foundB, Bool.or_eq_true, foundB_iff x la e n, Bool.and_eq_true]
  constructor
  ·rintro (⟨t, h1, h2⟩ | ⟨h1, h2⟩)
   ·exact ⟨t, by omega, h2⟩
   ·exact ⟨n, by omega, by simpa using h1, h2⟩
  ·rintro ⟨t, h1, h2, h3⟩
   by_cases ht : t = n
   ·subst ht
    exact Or.inr ⟨by simpa using h2, h3⟩
   ·exact Or.inl ⟨t, by omega, h2, h3⟩
theorem hitK_wf {e : Ev} (h : EvWf e) : (hitK 1 e = true ↔ e.k = 1) /\ (hitK 2 e = true ↔ e.k = 2) /\ (hitK 3 e = true ↔ e.k = 3) /\ (hitK 9 e = true ↔ e.k = 3 /\ e.wr = true) := by
 unfold hitK
 rcases h with ⟨h1, h2⟩ | ⟨h1, h2⟩ | h1 <;> simp [h1]
theorem lateB_iff {es : List Ev} {e : Ev} {t : Nat} (hw : ∀ a ∈ es, EvWf a) (he : EvWf e) (hl : es.length < 1000000) (hz : ∀ i, 0 <= tickM (xAt es) e i) : lateB (xAt es) (lastE es) e t = true ↔ ∃ i a, es[i]? = some a /\ a.t = t /\ candB a e = (!decide (t = e.t)) /\ candB a e = candB a e /\ a.a = e.a /\ ((a.wr || e.wr) && !(decide (a.k = 3) && decide (e.k = 3))) = true /\ tickM (xAt es) e t < ckAt es i a.t := by
 have key : ∀ kd, tickM (xAt es) e t < lastE es kd e.a t ↔ ∃ i a, es[i]? = some a /\ hitK kd a = true /\ a.a = e.a /\ a.t = t /\ tickM (xAt es) e t < ckAt es i a.t := fun kd => late_iff (by omega) (hz t)
 have mem : ∀ {i : Nat} {a : Ev}, es[i]? = some a -> EvWf a := fun h => hw _ (List.mem_of_getElem? h)
 have cand : ∀ {a : Ev}, a.t = t -> a.a = e.a -> ((a.wr || e.wr) && !(decide (a.k = 3) && decide (e.k = 3))) = true -> candB a e = (!decide (t = e.t)) := fun h1 h2 h3 => by
  unfold candB
  rw [h3, h1, h2]
  simp
 have mk : ∀ {i : Nat} {a : Ev}, es[i]? = some a -> a.t = t -> a.a = e.a -> ((a.wr || e.wr) && !(decide (a.k = 3) && decide (e.k = 3))) = true -> tickM (xAt es) e t < ckAt es i a.t -> ∃ i a, es[i]? = some a /\ a.t = t /\ candB a e = (!decide (t = e.t)) /\ candB a e = candB a e /\ a.a = e.a /\ ((a.wr || e.wr) && !(decide (a.k = 3) && decide (e.k = 3))) = true /\ tickM (xAt es) e t < ckAt es i a.t := fun h1 h2 h3 h4 h5 => ⟨_, _, h1, h2, cand h2 h3 h4, rfl, h3, h4, h5⟩
 rcases he with ⟨e1, e2⟩ | ⟨e1, e2⟩ | e1
 ·unfold lateB
  rw [if_pos e1, Bool.or_eq_true, decide_eq_true_eq, decide_eq_true_eq, key 2, key 9]
  constructor
  ·rintro (⟨i, a, h1, h2, h3, h4, h5⟩ | ⟨i, a, h1, h2, h3, h4, h5⟩)
   ·have hk := (hitK_wf (mem h1)).2.1.1 h2
    have hwr : a.wr = true := by rcases mem h1 with ⟨q, _⟩ | ⟨_, q⟩ | q <;> first | exact q | omega
    exact mk h1 h4 h3 (by simp [hwr, hk]) h5
   ·have hk := (hitK_wf (mem h1)).2.2.2.1 h2
    exact mk h1 h4 h3 (by simp [hk.2, e1]) h5
  ·rintro ⟨i, a, h1, h2, _, _, h3, h4, h5⟩
   rw [e2, e1] at h4
   have hwr : a.wr = true := by simpa using h4
   rcases mem h1 with ⟨q, q2⟩ | ⟨q, _⟩ | q
   ·rw [hwr] at q2; cases q2
   ·exact Or.inl ⟨i, a, h1, (hitK_wf (mem h1)).2.1.2 q, h3, h2, h5⟩
   ·exact Or.inr ⟨i, a, h1, (hitK_wf (mem h1)).2.2.2.2 ⟨q, hwr⟩, h3, h2, h5⟩
 ·unfold lateB
  rw [if_neg (by omega), if_pos e1, Bool.or_eq_true, Bool.or_eq_true, decide_eq_true_eq, decide_eq_true_eq, decide_eq_true_eq, key 1, key 2, key 3]
  constructor
  ·rintro ((⟨i, a, h1, h2, h3, h4, h5⟩ | ⟨i, a, h1, h2, h3, h4, h5⟩) | ⟨i, a, h1, h2, h3, h4, h5⟩)
   all_goals exact mk h1 h4 h3 (by simp [e1, e2]) h5
  ·rintro ⟨i, a, h1, h2, _, _, h3, h4, h5⟩
   rcases mem h1 with ⟨q, _⟩ | ⟨q, _⟩ | q
   ·exact Or.inl (Or.inl ⟨i, a, h1, (hitK_wf (mem h1)).1.2 q, h3, h2, h5⟩)
   ·exact Or.inl (Or.inr ⟨i, a, h1, (hitK_wf (mem h1)).2.1.2 q, h3, h2, h5⟩)
   ·exact Or.inr ⟨i, a, h1, (hitK_wf (mem h1)).2.2.1.2 q, h3, h2, h5⟩
 ·unfold lateB
  rw [if_neg (by omega), if_neg (by omega), Bool.or_eq_true, Bool.and_eq_true, decide_eq_true_eq, decide_eq_true_eq, key 2, key 1]
  constructor
  ·rintro (⟨i, a, h1, h2, h3, h4, h5⟩ | ⟨hw2, i, a, h1, h2, h3, h4, h5⟩)
   ·have hk := (hitK_wf (mem h1)).2.1.1 h2
    have hwr : a.wr = true := by rcases mem h1 with ⟨q, _⟩ | ⟨_, q⟩ | q <;> first | exact q | omega
    exact mk h1 h4 h3 (by simp [hwr, hk]) h5
   ·have hk := (hitK_wf (mem h1)).1.1 h2
    exact mk h1 h4 h3 (by simp [hw2, hk]) h5
  ·rintro ⟨i, a, h1, h2, _, _, h3, h4, h5⟩
   rw [e1] at h4
   simp only [decide_true, Bool.and_true, Bool.and_eq_true, Bool.or_eq_true, Bool.not_eq_true', decide_eq_false_iff_not] at h4
   rcases mem h1 with ⟨q, q2⟩ | ⟨q, _⟩ | q
   ·refine Or.inr ⟨?_, i, a, h1, (hitK_wf (mem h1)).1.2 q, h3, h2, h5⟩
    rcases h4.1 with h9 | h9
    ·rw [h9] at q2; cases q2
    ·exact h9
   ·exact Or.inl ⟨i, a, h1, (hitK_wf (mem h1)).2.1.2 q, h3, h2, h5⟩
   ·exact absurd q h4.2
theorem find_congr {l : List Nat} {p q : Nat -> Bool} (h : ∀ x ∈ l, p x = q x) : l.find? p = l.find? q := by
 induction l with
 | nil => rfl
 | cons a l ih => rw [List.find?_cons, List.find?_cons, h a (by simp), ih (fun x hx => h x (by simp [hx]))]
theorem rcsE_app (es fs : List Ev) : ∀ j, j <= es.length -> rcsE (es ++ fs) j = rcsE es j
 | 0, _ => rfl
 | j + 1, h => by
  obtain ⟨b, hb⟩ := at_lt (show j < es.length by omega)
  have hb2 : (es ++ fs)[j]? = some b := by rw [List.getElem?_append_left (by omega)]; exact hb
  have hf : (List.range j).find? (raceE (es ++ fs) j b) = (List.range j).find? (raceE es j b) := by
   refine find_congr fun i hi => ?_
   have hi := List.mem_range.1 hi
   obtain ⟨a, ha⟩ := at_lt (show i < es.length by omega)
   rw [raceE_at ha, raceE_at (a := a) (by rw [List.getElem?_append_left (by omega)]; exact ha), ckAt_app es fs j (by omega), ckAt_app es fs i (by omega)]
  rw [rcsE, rcsE, hb, hb2, rcsE_app es fs j (by omega)]
  simp only [hf]
theorem found_iff {es : List Ev} {e : Ev} (hw : ∀ a ∈ es, EvWf a) (ht : ∀ a ∈ es, a.t < 4) (he : EvWf e) (hl : es.length < 1000000) (h0 : rcsE es es.length = []) : foundB (xAt es) (lastE es) e 4 = !(rcsE (es ++ [e]) (es ++ [e]).length).isEmpty := by
 have hz : ∀ i, 0 <= tickM (xAt es) e i := fun i => by
  have h1 := tsAt_small es es.length (Nat.le_refl _) (by omega)
  have h2 := (tickM_ge h1 hl e i).1
  have h3 := h1.m0 e.t i
  exact Int.le_trans h3 h2
 rw [Bool.eq_iff_iff, foundB_iff]
 have e1 : (es ++ [e]).length = es.length + 1 := by simp
 have hlast : (es ++ [e])[es.length]? = some e := by simp
 rw [e1, rcsE, rcsE_app es [e] es.length (Nat.le_refl _), h0, hlast, List.nil_append]
 dsimp only
 have hck : ckAt (es ++ [e]) es.length = tickM (xAt es) e := ckAt_snoc es e
 have hr : ∀ i a, es[i]? = some a -> raceE (es ++ [e]) es.length e i = (candB a e && decide (tickM (xAt es) e a.t < ckAt es i a.t)) := fun i a ha => by
  have hi := (List.getElem?_eq_some_iff.1 ha).1
  rw [race_cand (a := a) (by rw [List.getElem?_append_left hi]; exact ha), hck, ckAt_app es [e] i hi]
 constructor
 ·rintro ⟨t, h1, h2, h3⟩
  obtain ⟨i, a, ha, hat, hc, _, _, _, hlt⟩ := (lateB_iff hw he hl hz).1 h3
  have hi := (List.getElem?_eq_some_iff.1 ha).1
  have hrt : raceE (es ++ [e]) es.length e i = true := by
   rw [hr i a ha, hc, hat]
   rw [hat] at hlt
   simp [h2, hlt]
  cases hf : (List.range es.length).find? (raceE (es ++ [e]) es.length e) with
  | none => exact absurd hrt (by have := List.find?_eq_none.1 hf i (List.mem_range.2 hi); simpa using this)
  | some q => simp [hf]
 ·intro h
  cases hf : (List.range es.length).find? (raceE (es ++ [e]) es.length e) with
  | none => rw [hf] at h; simp at h
  | some i =>
   have hi := List.mem_range.1 (List.mem_of_find?_eq_some hf)
   have hrt := List.find?_some hf
   obtain ⟨a, ha⟩ := at_lt hi
   rw [hr i a ha, Bool.and_eq_true, decide_eq_true_eq] at hrt
   have hc := hrt.1
   unfold candB at hc
   simp only [Bool.and_eq_true, decide_eq_true_eq, Bool.not_eq_true', decide_eq_false_iff_not] at hc
   have hne : a.t ≠ e.t := hc.2.1
   refine ⟨a.t, ht a (List.mem_of_getElem? ha), hne, (lateB_iff hw he hl hz).2 ⟨i, a, ha, rfl, ?_, rfl, hc.1, ?_, hrt.2⟩⟩
   ·rw [hrt.1]
    simp [hne]
   ·simp only [Bool.and_eq_true, Bool.not_eq_true']
    exact ⟨by simpa using hc.2.2.1, by simpa using hc.2.2.2⟩
end Go.Proofs.YtgjdgapfnfhklaaGreat
namespace Go.Proofs.YtgjdgapfnfhklaaGreat
open Go.RowKit
abbrev evcW (e : Ev) (A : Option Addr) (n k : Nat) : Value := .agg #[.int .i64 e.t, .int .i64 e.k, .int .i64 e.a, .bool e.wr, .slice A n k]
def rcB (a b : Ev) (f h : Clk) : Bool := candB a b && decide (h a.t < f a.t)
theorem rrace_any (a b : Ev) (A A' : Option Addr) (n k k' : Nat) (f h : Clk) (w : World) (hA : Sl w w.heap.size 1 A n (ints (clkL n f))) (hA' : Sl w w.heap.size 1 A' n (ints (clkL n h))) (ht : a.t < n) (hn : n <= maxLen) :
  Calls Tryz.prog 53 #[evcW a A n k, evcW b A' n k'] w (BoolR (rcB a b f h) w) := by
 obtain ⟨w0, hw0⟩ : ∃ w0 : World, w0 = (w.alloc (.cells #[.int .i64 a.t, .int .i64 a.k, .int .i64 a.a, .bool a.wr, .slice A n k] 147)).alloc (.cells #[.int .i64 b.t, .int .i64 b.k, .int .i64 b.a, .bool b.wr, .slice A' n k'] 147) := ⟨_, rfl⟩
 have HA0 : Hid (Blk w0 w.heap.size 147 [.int .i64 a.t, .int .i64 a.k, .int .i64 a.a, .bool a.wr, .slice A n k]) := by rw [hw0]; exact (Blk.new w 147 [.int .i64 a.t, .int .i64 a.k, .int .i64 a.a, .bool a.wr, .slice A n k]).alloc _
 have HB0 : Hid (Blk w0 (w.heap.size + 1) 147 [.int .i64 b.t, .int .i64 b.k, .int .i64 b.a, .bool b.wr, .slice A' n k']) := by
  rw [hw0]
  have h9 := Blk.new (w.alloc (.cells #[.int .i64 a.t, .int .i64 a.k, .int .i64 a.a, .bool a.wr, .slice A n k] 147)) 147 [.int .i64 b.t, .int .i64 b.k, .int .i64 b.a, .bool b.wr, .slice A' n k']
  rw [World.size_alloc] at h9
  exact h9
 have HW0 : Hid (Below w.heap.size w w0) := by rw [hw0]; exact ((Below.refl _ _).alloc (Nat.le_refl _) _).alloc (by simp) _
 have HSA := Lh ((hA.below HW0.o).up HW0.o.size)
 have HSB := Lh ((hA'.below HW0.o).up HW0.o.size)
 have HWe := Lh hw0
 clear hw0 hA hA'
 go_enter Tryz.func53, Tryz.ntmps53
 go_upto_region 1 with fail
 rw [<- HWe.o]
 clear HWe
 have y0 := HA0.o.cell (i := 0) rfl
 have y1 := HA0.o.cell (i := 1) rfl
 have y2 := HA0.o.cell (i := 2) rfl
 have y3 := HA0.o.cell (i := 3) rfl
 have z0 := HB0.o.cell (i := 0) rfl
 have z1 := HB0.o.cell (i := 1) rfl
 have z2 := HB0.o.cell (i := 2) rfl
 have z3 := HB0.o.cell (i := 3) rfl
 obtain ⟨k3a, hk3a⟩ : ∃ k3a, decide (a.k = 3) = k3a := ⟨_, rfl⟩
 obtain ⟨k3b, hk3b⟩ : ∃ k3b, decide (b.k = 3) = k3b := ⟨_, rfl⟩
 have p1 : (a.k == 3) = k3a := hk3a
 have p2 : (b.k == 3) = k3b := hk3b
 obtain ⟨wa, hwa⟩ : ∃ wa, a.wr = wa := ⟨_, rfl⟩
 obtain ⟨wb, hwb⟩ : ∃ wb, b.wr = wb := ⟨_, rfl⟩
 have HCn : Hid (candB a b = (decide (a.a = b.a) && (!decide (a.t = b.t) && ((wa || wb) && !(k3a && k3b))))) := by
  unfold candB
  rw [hk3a, hk3b, hwa, hwb]
  exact Lh rfl
 have HK := Lh hk3a
 have HK2 := Lh hk3b
 rw [hwa] at y3
 rw [hwb] at z3
 clear hk3a hk3b hwa hwb
 go_cut [44] (fun s44 wc => s44 = .bool (!candB a b) /\ w0 = wc)
 case first =>
  by_cases h1 : a.a = b.a
  case neg =>
   have m1 : ((a.a : Int) != (b.a : Int)) = true := by simp; omega
   have m2 : ¬ (a.a : Int) = (b.a : Int) := by omega
   go_wp2_with fail
   go_meet
   exact ⟨by rw [HCn.o]; simp [h1], rfl⟩
  have m1 : ((a.a : Int) != (b.a : Int)) = false := by simp; omega
  have m2 : (a.a : Int) = (b.a : Int) := by omega
  by_cases h2 : a.t = b.t
  case pos =>
   have m3 : ((a.t : Int) == (b.t : Int)) = true := by simp; omega
   have m4 : (a.t : Int) = (b.t : Int) := by omega
   go_wp2_with fail
   go_meet
   exact ⟨by rw [HCn.o]; simp [h1, h2], rfl⟩
  have m3 : ((a.t : Int) == (b.t : Int)) = false := by simp; omega
  have m4 : ¬ (a.t : Int) = (b.t : Int) := by omega
  cases wa <;> cases wb <;> cases k3a <;> cases k3b
  all_goals (
   have p3 := of_decide_eq HK.o
   have p4 := of_decide_eq HK2.o
   go_wp2_with fail
   go_meet
   exact ⟨by rw [HCn.o]; simp [h1, h2], rfl⟩)
 case rest =>
 obtain ⟨rfl, rfl⟩ := hcut
 clear HCn p1 p2 HK HK2 y1 y2 y3 z0 z1 z2 z3
 have y4 := HA0.o.cell (i := 4) rfl
 have z4 := HB0.o.cell (i := 4) rfl
 cases hcd : candB a b with
 | false =>
  have hnb : (!false) = true := rfl
  go_wp2_with fail
  go_ret
  exact ⟨by unfold rcB; rw [hcd]; rfl, HW0.o⟩
 | true =>
  have hnb : (!true) = false := rfl
  go_wp2_with fail
  refine (ahead27_any f h A A' n k k' a.t w0 HSA.o HSB.o ht hn).mono ?_
  rintro e w1 ⟨rfl, hb1⟩
  have HB1 := Lh (HW0.o.trans (hb1.mono HW0.o.size))
  clear hb1
  go_wp2_with fail
  go_ret
  refine ⟨?_, HB1.o⟩
  unfold rcB
  rw [hcd]
  by_cases h9 : f a.t <= h a.t
  ·simp [h9, Int.not_lt.2 h9]
  ·simp [h9, Int.lt_of_not_ge h9]
theorem raceE_rcB {es : List Ev} {j i : Nat} {a b : Ev} (h : es[i]? = some a) : raceE es j b i = rcB a b (ckAt es i) (ckAt es j) := race_cand h
theorem evcV_get {n : Nat} {es : List Ev} {cs : List (Nat × Nat)} {j : Nat} {e : Ev} {p : Nat × Nat} (he : es[j]? = some e) (hp : cs[j]? = some p) (q : Nat) (hq : q < 5) : (evcV n es cs)[j * 5 + q]? = (evL e ++ [sl1 n p])[q]? := by
 unfold evcV
 refine flat_get (fun p : Ev × (Nat × Nat) => evL p.1 ++ [sl1 n p.2]) 5 (fun _ => rfl) (x := (e, p)) ?_ q hq
 rw [List.getElem?_zip_eq_some]
 exact ⟨he, hp⟩
structure EvcAt (W : World) (B n : Nat) (es : List Ev) (cs : List (Nat × Nat)) (A : Option Addr) : Prop where
 sl : Sl W B 5 A es.length (evcV n es cs)
 cl : cs.length = es.length
 cr : ∀ j p, cs[j]? = some p -> Sl W B 1 (some ⟨p.1, 0, none⟩) n (ints (clkL n (ckAt es j)))
theorem EvcAt.on {W W' : World} {B n : Nat} {es : List Ev} {cs : List (Nat × Nat)} {A : Option Addr} (h : EvcAt W B n es cs A) (hb : Below B W W') : EvcAt W' B n es cs A := ⟨h.sl.below hb, h.cl, fun j p hp => (h.cr j p hp).below hb⟩
theorem EvcAt.up {W : World} {B B' n : Nat} {es : List Ev} {cs : List (Nat × Nat)} {A : Option Addr} (h : EvcAt W B n es cs A) (hb : B <= B') : EvcAt W B' n es cs A := ⟨h.sl.up hb, h.cl, fun j p hp => (h.cr j p hp).up hb⟩
theorem EvcAt.at_ {W : World} {B n j : Nat} {es : List Ev} {cs : List (Nat × Nat)} {A : Option Addr} (h : EvcAt W B n es cs A) {e : Ev} (he : es[j]? = some e) : ∃ p b o, cs[j]? = some p /\ A = some ⟨b, o, none⟩ /\ b < B /\ W.cell? ⟨b, o + j * 5, none⟩ = some (.int .i64 e.t) /\ W.cell? ⟨b, o + j * 5 + 1, none⟩ = some (.int .i64 e.k) /\ W.cell? ⟨b, o + j * 5 + 2, none⟩ = some (.int .i64 e.a) /\ W.cell? ⟨b, o + j * 5 + 3, none⟩ = some (.bool e.wr) /\ W.cell? ⟨b, o + j * 5 + 4, none⟩ = some (.slice (some ⟨p.1, 0, none⟩) n p.2) := by
 have hj := (List.getElem?_eq_some_iff.1 he).1
 obtain ⟨p, hp⟩ := at_lt (show j < cs.length by rw [h.cl]; exact hj)
 obtain ⟨b, o, hA, hb, hc⟩ := h.sl.2 (by omega)
 refine ⟨p, b, o, hp, hA, hb, ?_, ?_, ?_, ?_, ?_⟩
 ·exact hc (j * 5) _ (evcV_get he hp 0 (by omega))
 all_goals rw [Nat.add_assoc]
 ·exact hc (j * 5 + 1) _ (evcV_get he hp 1 (by omega))
 ·exact hc (j * 5 + 2) _ (evcV_get he hp 2 (by omega))
 ·exact hc (j * 5 + 3) _ (evcV_get he hp 3 (by omega))
 ·exact hc (j * 5 + 4) _ (evcV_get he hp 4 (by omega))
def RparR (es : List Ev) (w : World) (e : Ending) (w' : World) : Prop := ∃ A k, e = .returned (.slice A (rcsE es es.length).length k) /\ w'.ownsRow w.heap.size 60 3 (.slice A (rcsE es es.length).length k) (rcsE es es.length).length (rkVals (rcsE es es.length)) /\ Below w.heap.size w w'
theorem rpairs_any (es : List Ev) (cs : List (Nat × Nat)) (A : Option Addr) (n m k : Nat) (w : World) (h : EvcAt w w.heap.size n es cs A) (hm : es.length = m) (hm2 : m <= 100000) (hn : n <= 4) (ht : ∀ e ∈ es, e.t < n) :
  Calls Tryz.prog 23 #[.slice A m k] w (RparR es w) := by
 have HE := Lh h
 have HM := Lh hm
 have HT := Lh ht
 clear h hm ht
 obtain ⟨i1, hi1, hi1z, hi1s, hi1b⟩ := info_parts info_rc
 go_enter Tryz.func23, Tryz.ntmps23
 go_upto_region 3 with fail
 go_loopg [3, 4] m (fun gk v3 i wr => ∃ (j : Nat) (v : Value), j + gk = m /\ i = .int .i64 j /\ v = v3 /\ Hid (Below w.heap.size w wr) /\ Hid (wr.ownsRow w.heap.size 60 3 v (rcsE es j).length (rkVals (rcsE es j))))
 case atStart => exact ⟨0, _, by omega, rfl, rfl, Below.refl _ _, World.ownsRow_nil _ _ _ _⟩
 case round =>
  obtain ⟨j, v, hj, rfl, hv3, HB, HO⟩ := hrel
  subst hv3
  by_cases hlt : j < m
  ·have e1 : (j : Int) < m := by omega
   have e0 : (0 : Int) <= j := by omega
   obtain ⟨b, hb⟩ := at_lt (show j < es.length by rw [HM.o]; exact hlt)
   have HGb := Lh hb
   have hbt := HT.o b (List.mem_of_getElem? hb)
   clear hb
   obtain ⟨wo, rfl⟩ : ∃ wo : World, wo = wr := ⟨_, rfl⟩
   obtain ⟨go, rfl⟩ : ∃ go : Nat, go = gk := ⟨_, rfl⟩
   go_cut [3, 4] from 10 to 37 (fun s3 s4 wc => ∃ v', v' = s3 /\ s4 = .int .i64 ((j + 1 : Nat) : Int) /\ Hid (Below w.heap.size w wc) /\ Hid (wc.ownsRow w.heap.size 60 3 v' (rcsE es (j + 1)).length (rkVals (rcsE es (j + 1)))))
   case first =>
    go_wp2_with fail
    go_loopg [3, 5] j (fun gq v3 i wr => ∃ (q : Nat), q + gq = j /\ i = .int .i64 q /\ v = v3 /\ Hid (Below wo.heap.size wo wr) /\ Hid (∀ q', q' < q -> raceE es j b q' = false))
    case atStart => exact ⟨0, by omega, rfl, rfl, Below.refl _ _, fun q' h' => absurd h' (by omega)⟩
    case round =>
     obtain ⟨q, hq, rfl, hv3, HBq, HF⟩ := hrel
     subst hv3
     by_cases hqj : q < j
     ·have f1 : (q : Int) < j := by omega
      have f0 : (0 : Int) <= q := by omega
      have f2 : (q : Int) < m := by omega
      obtain ⟨a, ha⟩ := at_lt (show q < es.length by rw [HM.o]; omega)
      have HGa := Lh ha
      have hat := HT.o a (List.mem_of_getElem? ha)
      clear ha
      have HEw := Lh (HE.o.on (HB.o.trans (HBq.o.mono HB.o.size)))
      obtain ⟨p, b1, o1, hp, hA1, hb1, c0, c1, c2, c3, c4⟩ := HEw.o.at_ HGa.o
      obtain ⟨p2, b2, o2, hp2, hA2, _, d0, d1, d2, d3, d4⟩ := HEw.o.at_ HGb.o
      rw [hA1] at hA2
      injection hA2 with hA2
      injection hA2 with hA3 hA4
      subst hA3 hA4
      have HP := Lh hp
      have HP2 := Lh hp2
      subst hA1
      have HBs := Lh (Nat.le_trans HB.o.size HBq.o.size)
      have HCall : Hid (∀ W, Below wr.heap.size wr W -> Calls Tryz.prog 53 #[evcW a (some ⟨p.1, 0, none⟩) n p.2, evcW b (some ⟨p2.1, 0, none⟩) n p2.2] W (BoolR (raceE es j b q) W)) := fun W hW => by
       rw [raceE_rcB HGa.o]
       have hE2 := (HEw.o.on (hW.mono HBs.o)).up (Nat.le_trans HBs.o hW.size)
       exact rrace_any a b _ _ n p.2 p2.2 (ckAt es q) (ckAt es j) W (hE2.cr q p HP.o) (hE2.cr j p2 HP2.o) hat (by simp only [maxLen]; omega)
      clear hp hp2
      have hSo : ∀ W, Below wr.heap.size wr W -> W.cell? ⟨b1, o1 + q * 5, none⟩ = some (.int .i64 a.t) /\ W.cell? ⟨b1, o1 + q * 5 + 1, none⟩ = some (.int .i64 a.k) /\ W.cell? ⟨b1, o1 + q * 5 + 2, none⟩ = some (.int .i64 a.a) /\ W.cell? ⟨b1, o1 + q * 5 + 3, none⟩ = some (.bool a.wr) /\ W.cell? ⟨b1, o1 + q * 5 + 4, none⟩ = some (.slice (some ⟨p.1, 0, none⟩) n p.2) /\ W.cell? ⟨b1, o1 + j * 5, none⟩ = some (.int .i64 b.t) /\ W.cell? ⟨b1, o1 + j * 5 + 1, none⟩ = some (.int .i64 b.k) /\ W.cell? ⟨b1, o1 + j * 5 + 2, none⟩ = some (.int .i64 b.a) /\ W.cell? ⟨b1, o1 + j * 5 + 3, none⟩ = some (.bool b.wr) /\ W.cell? ⟨b1, o1 + j * 5 + 4, none⟩ = some (.slice (some ⟨p2.1, 0, none⟩) n p2.2) := fun W hW => by
       have k : ∀ (a : Addr) (v : Value), wr.cell? a = some v -> W.cell? a = some v := fun a v hv => (hW.cell (World.block_lt_of_cell? wr a hv)).trans hv
       exact ⟨k _ _ c0, k _ _ c1, k _ _ c2, k _ _ c3, k _ _ c4, k _ _ d0, k _ _ d1, k _ _ d2, k _ _ d3, k _ _ d4⟩
      have HSo := Lh hSo
      clear hSo c0 c1 c2 c3 c4 d0 d1 d2 d3 d4
      go_upto_region 8 with fail
      go_region_held3 (fun W => W.cell? ⟨b1, o1 + q * 5, none⟩ = some (.int .i64 a.t) /\ W.cell? ⟨b1, o1 + q * 5 + 1, none⟩ = some (.int .i64 a.k) /\ W.cell? ⟨b1, o1 + q * 5 + 2, none⟩ = some (.int .i64 a.a) /\ W.cell? ⟨b1, o1 + q * 5 + 3, none⟩ = some (.bool a.wr) /\ W.cell? ⟨b1, o1 + q * 5 + 4, none⟩ = some (.slice (some ⟨p.1, 0, none⟩) n p.2) /\ W.cell? ⟨b1, o1 + j * 5, none⟩ = some (.int .i64 b.t) /\ W.cell? ⟨b1, o1 + j * 5 + 1, none⟩ = some (.int .i64 b.k) /\ W.cell? ⟨b1, o1 + j * 5 + 2, none⟩ = some (.int .i64 b.a) /\ W.cell? ⟨b1, o1 + j * 5 + 3, none⟩ = some (.bool b.wr) /\ W.cell? ⟨b1, o1 + j * 5 + 4, none⟩ = some (.slice (some ⟨p2.1, 0, none⟩) n p2.2)) (first | (refine HSo.o _ ?_; assumption) | (refine HSo.o _ ?_; exact (Below.refl _ _).drew)) ((go_at_call 53; refine (HCall.o _ (Below.refl _ _).drew).mono ?_; rintro e w3 ⟨rfl, hb3⟩; have hb4 := (Below.refl wr.heap.size wr).drew.trans hb3))
      have HB3 := Lh (HBq.o.trans (hb4.mono HBq.o.size))
      cases hrc : raceE es j b q with
      | false =>
       have HRq := Lh hrc
       clear hrc
       go_wp2_with fail
       go_roundg (gk - 1)
       case measure => omega
       case rel => exact ⟨q + 1, by omega, by go_num, rfl, HB3, fun q' h' => by
        rcases Nat.lt_or_eq_of_le (Nat.le_of_lt_succ h') with h9 | h9
        ·exact HF.o q' h9
        ·rw [h9]; exact HRq.o⟩
      | true =>
       have HRt : Hid (rcsE es (j + 1) = rcsE es j ++ [(q, j, (b.a : Int))]) := Lh (rcsE_one HGb.o (find_one HF.o hrc hqj))
       clear hrc
       have d2 : w3.cell? ⟨b1, o1 + j * 5 + 2, none⟩ = some (.int .i64 b.a) := (HSo.o w3 hb4).2.2.2.2.2.2.2.1
       have hown := HO.o.below (HB3.o)
       obtain ⟨Av, kv, hvv, hkv1, hkv2⟩ := own_form HO.o
       have hrl := rcsE_len es j
       have hbz := HB.o.size
       have hbz3 := HB3.o.size
       go_wp2_with (at_builtin; go_must (refine wpList_app _ rfl _ _ 51 rfl w.heap.size 60 i1 (.agg #[.int .i64 0, .int .i64 0, .int .i64 0]) 3 24 Tryz.underlying51 hi1 hi1z hi1s hi1b rfl (by decide) v (rcsE es j).length _ rfl (hown.alloc _) (w3.heap.size + 1) (some ⟨w3.heap.size, 0, none⟩) 1 1 [.int .i64 q, .int .i64 j, .int .i64 b.a] rfl (((Blk.new w3 60 _).sl rfl).up (by simp)) (rk_one _ _ _) ((rcsE es j).length + 1) rfl _ rfl _ rfl (by simp only [maxLen]; omega) (by omega) (by rw [World.size_alloc]; omega) ?_; intro A7 k7 w7 hown7 hg7 hat7 hk7 hk8))
       go_meet
       refine ⟨_, rfl, by go_num, ?_, ?_⟩
       ·exact ((HB.o.trans (HB3.o.mono HB.o.size)).alloc (by omega) _).grown hg7 (by rw [World.size_alloc]; omega) (fun q hq => (HO.o.lt q hq).1)
       ·rw [HRt.o, rkVals_snoc, List.length_append]
        exact hown7
     ·obtain rfl : q = j := by omega
      have HRn : Hid (rcsE es (q + 1) = rcsE es q) := Lh (rcsE_none HGb.o (find_no HF.o))
      go_wp2_with fail
      go_meet
      exact ⟨_, rfl, by go_num, HB.o.trans (HBq.o.mono HB.o.size), Lh (by rw [HRn.o]; exact HO.o.below HBq.o)⟩
   case rest =>
    obtain ⟨v', hv3, rfl, HB', HO'⟩ := hcut
    subst hv3
    go_wp2_with fail
    go_roundg (go - 1)
    case measure => omega
    case rel => exact ⟨j + 1, _, by omega, by go_num, rfl, HB', HO'⟩
  ·have hjm : j = m := by omega
   subst hjm
   obtain ⟨A9, k9, hv9, h91, h92⟩ := own_form HO.o
   subst hv9
   have hml := HM.o
   go_wp2_with fail
   go_ret
   refine ⟨A9, k9, ?_, ?_, HB.o⟩
   ·rw [hml]
    rfl
   ·rw [hml]
    exact HO.o
end Go.Proofs.YtgjdgapfnfhklaaGreat
