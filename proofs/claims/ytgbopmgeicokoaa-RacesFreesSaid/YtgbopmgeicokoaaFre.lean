/-
  Going through all states of a litmus program, breadth first, as both sides do; the races that a node's numbers tell are those of its events. Plain data.
-/
import Derived.Test.YtgbopmgeicokoaaRst0
import Derived.Test.YtgbopmgeicokoaaPar
namespace Go.Proofs.Ytgbopmgeicokoaa
open Go.RowKit
set_option linter.unusedSimpArgs false
set_option linter.unusedVariables false

/-- is an event of a kind (9: a swap that succeeded) -/
def hitK (kd : Int) (e : Ev) : Bool := decide (e.k = kd) || (decide (kd = 9) && (decide (e.k = 3) && e.wr))
/-- of each word and thread the thread's own number at its last event of a kind, among the first j -/
def lastAt (es : List Ev) (kd : Int) : Nat → Nat → Nat → Int
  | 0 => fun _ _ => 0
  | j + 1 => match es[j]? with
    | some e => fun a t => if hitK kd e = true ∧ a = e.a ∧ t = e.t then ckAt es j e.t else lastAt es kd j a t
    | none => lastAt es kd j
def lastE (es : List Ev) (kd : Int) : Nat → Nat → Int := lastAt es kd es.length
theorem lastAt_next {es : List Ev} {kd : Int} {j : Nat} {e : Ev} (h : es[j]? = some e) (a t : Nat) : lastAt es kd (j + 1) a t = if hitK kd e = true ∧ a = e.a ∧ t = e.t then ckAt es j e.t else lastAt es kd j a t := by rw [lastAt, h]
theorem lastAt_app (es fs : List Ev) (kd : Int) : ∀ j, j ≤ es.length → ∀ a t, lastAt (es ++ fs) kd j a t = lastAt es kd j a t
  | 0, _, _, _ => rfl
  | j + 1, h, a, t => by
    obtain ⟨e, he⟩ := at_lt (show j < es.length by omega)
    rw [lastAt_next he, lastAt_next (e := e) (by rw [List.getElem?_append_left (by omega)]; exact he), lastAt_app es fs kd j (by omega), ckAt_app es fs j (by omega)]
theorem lastE_snoc (es : List Ev) (kd : Int) (e : Ev) (a t : Nat) : lastE (es ++ [e]) kd a t = if hitK kd e = true ∧ a = e.a ∧ t = e.t then tickM (xAt es) e e.t else lastE es kd a t := by
  unfold lastE
  rw [List.length_append, List.length_singleton, lastAt_next (e := e) (by simp), ckAt_snoc, lastAt_app es [e] kd _ (Nat.le_refl _)]

/-- an event as an instruction makes it -/
def EvWf (e : Ev) : Prop := (e.k = 1 ∧ e.wr = false) ∨ (e.k = 2 ∧ e.wr = true) ∨ e.k = 3
theorem eventS_wf {S : LS} {t : Nat} {x : Ins} {e : Ev} (h : eventS S t x = some e) : EvWf e := by
  unfold eventS at h
  split at h
  · injection h with h; subst h; exact Or.inl ⟨rfl, rfl⟩
  · split at h
    · injection h with h; subst h; exact Or.inr (Or.inl ⟨rfl, rfl⟩)
    · split at h
      · injection h with h; subst h; exact Or.inr (Or.inr rfl)
      · cases h
theorem evOf_wf {l : Lit} {S : LS} {u : Tn} {e : Ev} (h : evOf l S u = some e) : EvWf e := by
  unfold evOf at h
  split at h
  · exact eventS_wf h
  · cases h
/-- nothing wraps while the numbers are small -/
structure SmallT (x : TS) (j : Nat) : Prop where
  m0 : ∀ t i, 0 ≤ x.m t i
  mj : ∀ t i, x.m t i ≤ j
  w0 : ∀ a i, 0 ≤ x.wd a i
  wj : ∀ a i, x.wd a i ≤ j
theorem wrap_small {z : Int} (h0 : 0 ≤ z) (h : z ≤ 1000000) : IntKind.i64.wrap z = z := IntWalk.i64_in _ (by omega)
theorem bumpW_small {x : TS} {j : Nat} (h : SmallT x j) (hj : j < 1000000) (t q i : Nat) : bumpW (x.m t) q i = if i = q then x.m t i + 1 else x.m t i := by
  unfold bumpW
  split
  · rw [wrap_small (by have := h.m0 t i; omega) (by have := h.mj t i; omega)]
  · rfl
theorem tickM_ge {x : TS} {j : Nat} (h : SmallT x j) (hj : j < 1000000) (e : Ev) (i : Nat) : x.m e.t i ≤ tickM x e i ∧ tickM x e i ≤ j + 1 := by
  have h1 := bumpW_small h hj e.t e.t i
  have hm := h.mj e.t i
  have hw := h.wj e.a i
  have hb : x.m e.t i ≤ bumpW (x.m e.t) e.t i ∧ bumpW (x.m e.t) e.t i ≤ j + 1 := by
    rw [h1]
    split <;> omega
  unfold tickM
  split
  · unfold maxC
    split <;> omega
  · exact hb
theorem tickS_small {x : TS} {j : Nat} (h : SmallT x j) (hj : j < 1000000) (e : Ev) : SmallT (tickS x e) (j + 1) := by
  have hg := tickM_ge h hj e
  refine ⟨fun t i => ?_, fun t i => ?_, fun a i => ?_, fun a i => ?_⟩
  · show 0 ≤ (if t = e.t then tickM x e else x.m t) i
    have := h.m0 e.t i
    have := (hg i).1
    split
    · omega
    · exact h.m0 t i
  · show (if t = e.t then tickM x e else x.m t) i ≤ _
    have := (hg i).2
    split
    · push_cast; omega
    · have := h.mj t i; push_cast; omega
  · show 0 ≤ (if e.k = 3 ∧ e.wr = true ∧ a = e.a then tickM x e else x.wd a) i
    have := h.m0 e.t i
    have := (hg i).1
    split
    · omega
    · exact h.w0 a i
  · show (if e.k = 3 ∧ e.wr = true ∧ a = e.a then tickM x e else x.wd a) i ≤ _
    have := (hg i).2
    split
    · push_cast; omega
    · have := h.wj a i; push_cast; omega
theorem tsAt_small (es : List Ev) : ∀ j, j ≤ es.length → j ≤ 1000000 → SmallT (tsAt es j) j
  | 0, _, _ => ⟨fun _ _ => Int.le_refl _, fun _ _ => Int.le_refl _, fun _ _ => Int.le_refl _, fun _ _ => Int.le_refl _⟩
  | j + 1, h, h2 => by
    obtain ⟨e, he⟩ := at_lt (show j < es.length by omega)
    rw [tsAt_next he]
    exact tickS_small (tsAt_small es j (by omega) (by omega)) (by omega) e
/-- a thread's own number never falls -/
theorem tsAt_mono (es : List Ev) (t i : Nat) : ∀ d j, j + d ≤ es.length → j + d ≤ 1000000 → (tsAt es j).m t i ≤ (tsAt es (j + d)).m t i
  | 0, _, _, _ => Int.le_refl _
  | d + 1, j, h, h2 => by
    have ih := tsAt_mono es t i d j (by omega) (by omega)
    obtain ⟨e, he⟩ := at_lt (show j + d < es.length by omega)
    refine Int.le_trans ih ?_
    rw [← Nat.add_assoc, tsAt_next he]
    show _ ≤ (if t = e.t then tickM (tsAt es (j + d)) e else (tsAt es (j + d)).m t) i
    split
    · rename_i ht
      rw [ht]
      exact (tickM_ge (tsAt_small es (j + d) (by omega) (by omega)) (by omega) e i).1
    · exact Int.le_refl _
theorem ckAt_own {es : List Ev} {j : Nat} {e : Ev} (h : es[j]? = some e) : ckAt es j e.t = (tsAt es (j + 1)).m e.t e.t := by
  rw [ckAt_at h, tsAt_next h]
  show _ = (if e.t = e.t then tickM (tsAt es j) e else _) e.t
  rw [if_pos rfl]
theorem ckAt_mono {es : List Ev} {i j : Nat} {a b : Ev} (ha : es[i]? = some a) (hb : es[j]? = some b) (hij : i ≤ j) (ht : a.t = b.t) (hl : es.length ≤ 1000000) : ckAt es i a.t ≤ ckAt es j b.t := by
  rw [ckAt_own ha, ckAt_own hb, ht]
  have hj := (List.getElem?_eq_some_iff.1 hb).1
  have := tsAt_mono es b.t b.t (j - i) (i + 1) (by omega) (by omega)
  rwa [show i + 1 + (j - i) = j + 1 from by omega] at this
/-- the last number is that of the last event, and the greatest -/
theorem lastAt_spec (es : List Ev) (kd : Int) (a t : Nat) (hl : es.length ≤ 1000000) : ∀ j, j ≤ es.length →
    (∀ i e, i < j → es[i]? = some e → hitK kd e = true → e.a = a → e.t = t → ckAt es i e.t ≤ lastAt es kd j a t) ∧
    (lastAt es kd j a t = 0 ∨ ∃ i e, i < j ∧ es[i]? = some e ∧ hitK kd e = true ∧ e.a = a ∧ e.t = t ∧ lastAt es kd j a t = ckAt es i e.t)
  | 0, _ => ⟨fun i e hi => absurd hi (by omega), Or.inl rfl⟩
  | j + 1, h => by
    obtain ⟨ih1, ih2⟩ := lastAt_spec es kd a t hl j (by omega)
    obtain ⟨b, hb⟩ := at_lt (show j < es.length by omega)
    rw [lastAt_next hb]
    by_cases hc : hitK kd b = true ∧ a = b.a ∧ t = b.t
    · rw [if_pos hc]
      refine ⟨fun i e hi he hk ha ht => ckAt_mono he hb (by omega) (by rw [ht]; exact hc.2.2) hl, Or.inr ⟨j, b, by omega, hb, hc.1, hc.2.1.symm, hc.2.2.symm, rfl⟩⟩
    · rw [if_neg hc]
      refine ⟨fun i e hi he hk ha ht => ?_, ?_⟩
      · by_cases hij : i = j
        · subst hij
          rw [hb] at he
          injection he with he
          subst he
          exact absurd ⟨hk, ha.symm, ht.symm⟩ hc
        · exact ih1 i e (by omega) he hk ha ht
      · rcases ih2 with h0 | ⟨i, e, hi, r⟩
        · exact Or.inl h0
        · exact Or.inr ⟨i, e, by omega, r⟩
/-- is a number below that of the last event of a kind: is it below that of any -/
theorem late_iff {es : List Ev} {kd : Int} {a t : Nat} {z : Int} (hl : es.length ≤ 1000000) (hz : 0 ≤ z) : z < lastE es kd a t ↔ ∃ i e, es[i]? = some e ∧ hitK kd e = true ∧ e.a = a ∧ e.t = t ∧ z < ckAt es i e.t := by
  obtain ⟨h1, h2⟩ := lastAt_spec es kd a t hl es.length (Nat.le_refl _)
  constructor
  · intro h
    rcases h2 with h0 | ⟨i, e, _, he, hk, ha, ht, hv⟩
    · unfold lastE at h
      omega
    · exact ⟨i, e, he, hk, ha, ht, by unfold lastE at h; omega⟩
  · rintro ⟨i, e, he, hk, ha, ht, hv⟩
    have := h1 i e (List.getElem?_eq_some_iff.1 he).1 he hk ha ht
    unfold lastE
    omega
/-- what the program asks of a thread -/
def lateB (x : TS) (la : Int → Nat → Nat → Int) (e : Ev) (t : Nat) : Bool :=
  if e.k = 1 then decide (tickM x e t < la 2 e.a t) || decide (tickM x e t < la 9 e.a t)
  else if e.k = 2 then decide (tickM x e t < la 1 e.a t) || decide (tickM x e t < la 2 e.a t) || decide (tickM x e t < la 3 e.a t)
  else decide (tickM x e t < la 2 e.a t) || (e.wr && decide (tickM x e t < la 1 e.a t))
def foundB (x : TS) (la : Int → Nat → Nat → Int) (e : Ev) : Nat → Bool
  | 0 => false
  | t + 1 => foundB x la e t || (!decide (t = e.t) && lateB x la e t)
theorem foundB_iff (x : TS) (la : Int → Nat → Nat → Int) (e : Ev) : ∀ n, foundB x la e n = true ↔ ∃ t, t < n ∧ t ≠ e.t ∧ lateB x la e t = true
  | 0 => by simp [foundB]
  | n + 1 => by
    rw [foundB, Bool.or_eq_true, foundB_iff x la e n, Bool.and_eq_true]
    constructor
    · rintro (⟨t, h1, h2⟩ | ⟨h1, h2⟩)
      · exact ⟨t, by omega, h2⟩
      · exact ⟨n, by omega, by simpa using h1, h2⟩
    · rintro ⟨t, h1, h2, h3⟩
      by_cases ht : t = n
      · subst ht
        exact Or.inr ⟨by simpa using h2, h3⟩
      · exact Or.inl ⟨t, by omega, h2, h3⟩
theorem hitK_wf {e : Ev} (h : EvWf e) : (hitK 1 e = true ↔ e.k = 1) ∧ (hitK 2 e = true ↔ e.k = 2) ∧ (hitK 3 e = true ↔ e.k = 3) ∧ (hitK 9 e = true ↔ e.k = 3 ∧ e.wr = true) := by
  unfold hitK
  rcases h with ⟨h1, h2⟩ | ⟨h1, h2⟩ | h1 <;> simp [h1]
/-- a thread is late: one of its events is in a race with the new one -/
theorem lateB_iff {es : List Ev} {e : Ev} {t : Nat} (hw : ∀ a ∈ es, EvWf a) (he : EvWf e) (hl : es.length < 1000000) (hz : ∀ i, 0 ≤ tickM (xAt es) e i) : lateB (xAt es) (lastE es) e t = true ↔ ∃ i a, es[i]? = some a ∧ a.t = t ∧ candB a e = (!decide (t = e.t)) ∧ candB a e = candB a e ∧ a.a = e.a ∧ ((a.wr || e.wr) && !(decide (a.k = 3) && decide (e.k = 3))) = true ∧ tickM (xAt es) e t < ckAt es i a.t := by
  have key : ∀ kd, tickM (xAt es) e t < lastE es kd e.a t ↔ ∃ i a, es[i]? = some a ∧ hitK kd a = true ∧ a.a = e.a ∧ a.t = t ∧ tickM (xAt es) e t < ckAt es i a.t := fun kd => late_iff (by omega) (hz t)
  have mem : ∀ {i : Nat} {a : Ev}, es[i]? = some a → EvWf a := fun h => hw _ (List.mem_of_getElem? h)
  have cand : ∀ {a : Ev}, a.t = t → a.a = e.a → ((a.wr || e.wr) && !(decide (a.k = 3) && decide (e.k = 3))) = true → candB a e = (!decide (t = e.t)) := fun h1 h2 h3 => by
    unfold candB
    rw [h3, h1, h2]
    simp
  have mk : ∀ {i : Nat} {a : Ev}, es[i]? = some a → a.t = t → a.a = e.a → ((a.wr || e.wr) && !(decide (a.k = 3) && decide (e.k = 3))) = true → tickM (xAt es) e t < ckAt es i a.t → ∃ i a, es[i]? = some a ∧ a.t = t ∧ candB a e = (!decide (t = e.t)) ∧ candB a e = candB a e ∧ a.a = e.a ∧ ((a.wr || e.wr) && !(decide (a.k = 3) && decide (e.k = 3))) = true ∧ tickM (xAt es) e t < ckAt es i a.t := fun h1 h2 h3 h4 h5 => ⟨_, _, h1, h2, cand h2 h3 h4, rfl, h3, h4, h5⟩
  rcases he with ⟨e1, e2⟩ | ⟨e1, e2⟩ | e1
  · unfold lateB
    rw [if_pos e1, Bool.or_eq_true, decide_eq_true_eq, decide_eq_true_eq, key 2, key 9]
    constructor
    · rintro (⟨i, a, h1, h2, h3, h4, h5⟩ | ⟨i, a, h1, h2, h3, h4, h5⟩)
      · have hk := (hitK_wf (mem h1)).2.1.1 h2
        have hwr : a.wr = true := by rcases mem h1 with ⟨q, _⟩ | ⟨_, q⟩ | q <;> first | exact q | omega
        exact mk h1 h4 h3 (by simp [hwr, hk]) h5
      · have hk := (hitK_wf (mem h1)).2.2.2.1 h2
        exact mk h1 h4 h3 (by simp [hk.2, e1]) h5
    · rintro ⟨i, a, h1, h2, _, _, h3, h4, h5⟩
      rw [e2, e1] at h4
      have hwr : a.wr = true := by simpa using h4
      rcases mem h1 with ⟨q, q2⟩ | ⟨q, _⟩ | q
      · rw [hwr] at q2; cases q2
      · exact Or.inl ⟨i, a, h1, (hitK_wf (mem h1)).2.1.2 q, h3, h2, h5⟩
      · exact Or.inr ⟨i, a, h1, (hitK_wf (mem h1)).2.2.2.2 ⟨q, hwr⟩, h3, h2, h5⟩
  · unfold lateB
    rw [if_neg (by omega), if_pos e1, Bool.or_eq_true, Bool.or_eq_true, decide_eq_true_eq, decide_eq_true_eq, decide_eq_true_eq, key 1, key 2, key 3]
    constructor
    · rintro ((⟨i, a, h1, h2, h3, h4, h5⟩ | ⟨i, a, h1, h2, h3, h4, h5⟩) | ⟨i, a, h1, h2, h3, h4, h5⟩)
      all_goals exact mk h1 h4 h3 (by simp [e1, e2]) h5
    · rintro ⟨i, a, h1, h2, _, _, h3, h4, h5⟩
      rcases mem h1 with ⟨q, _⟩ | ⟨q, _⟩ | q
      · exact Or.inl (Or.inl ⟨i, a, h1, (hitK_wf (mem h1)).1.2 q, h3, h2, h5⟩)
      · exact Or.inl (Or.inr ⟨i, a, h1, (hitK_wf (mem h1)).2.1.2 q, h3, h2, h5⟩)
      · exact Or.inr ⟨i, a, h1, (hitK_wf (mem h1)).2.2.1.2 q, h3, h2, h5⟩
  · unfold lateB
    rw [if_neg (by omega), if_neg (by omega), Bool.or_eq_true, Bool.and_eq_true, decide_eq_true_eq, decide_eq_true_eq, key 2, key 1]
    constructor
    · rintro (⟨i, a, h1, h2, h3, h4, h5⟩ | ⟨hw2, i, a, h1, h2, h3, h4, h5⟩)
      · have hk := (hitK_wf (mem h1)).2.1.1 h2
        have hwr : a.wr = true := by rcases mem h1 with ⟨q, _⟩ | ⟨_, q⟩ | q <;> first | exact q | omega
        exact mk h1 h4 h3 (by simp [hwr, hk]) h5
      · have hk := (hitK_wf (mem h1)).1.1 h2
        exact mk h1 h4 h3 (by simp [hw2, hk]) h5
    · rintro ⟨i, a, h1, h2, _, _, h3, h4, h5⟩
      rw [e1] at h4
      simp only [decide_true, Bool.and_true, Bool.and_eq_true, Bool.or_eq_true, Bool.not_eq_true', decide_eq_false_iff_not] at h4
      rcases mem h1 with ⟨q, q2⟩ | ⟨q, _⟩ | q
      · refine Or.inr ⟨?_, i, a, h1, (hitK_wf (mem h1)).1.2 q, h3, h2, h5⟩
        rcases h4.1 with h9 | h9
        · rw [h9] at q2; cases q2
        · exact h9
      · exact Or.inl ⟨i, a, h1, (hitK_wf (mem h1)).2.1.2 q, h3, h2, h5⟩
      · exact absurd q h4.2
theorem find_congr {l : List Nat} {p q : Nat → Bool} (h : ∀ x ∈ l, p x = q x) : l.find? p = l.find? q := by
  induction l with
  | nil => rfl
  | cons a l ih => rw [List.find?_cons, List.find?_cons, h a (by simp), ih (fun x hx => h x (by simp [hx]))]
theorem rcsE_app (es fs : List Ev) : ∀ j, j ≤ es.length → rcsE (es ++ fs) j = rcsE es j
  | 0, _ => rfl
  | j + 1, h => by
    obtain ⟨b, hb⟩ := at_lt (show j < es.length by omega)
    have hb2 : (es ++ fs)[j]? = some b := by rw [List.getElem?_append_left (by omega)]; exact hb
    have hf : (List.range j).find? (raceE (es ++ fs) j b) = (List.range j).find? (raceE es j b) := by
      refine find_congr fun i hi => ?_
      have hi := List.mem_range.1 hi
      obtain ⟨a, ha⟩ := at_lt (show i < es.length by omega)
      rw [raceE_at ha, raceE_at (a := a) (by rw [List.getElem?_append_left (by omega)]; exact ha), ckAt_app es fs j (by omega), ckAt_app es fs i (by omega)]
    rw [rcsE, rcsE, hb, hb2, rcsE_app es fs j (by omega)]
    simp only [hf]
/-- THE LAW OF RACES: where the events have no race yet, the new event has one just where a thread is late. -/
theorem found_iff {es : List Ev} {e : Ev} (hw : ∀ a ∈ es, EvWf a) (ht : ∀ a ∈ es, a.t < 4) (he : EvWf e) (hl : es.length < 1000000) (h0 : rcsE es es.length = []) : foundB (xAt es) (lastE es) e 4 = !(rcsE (es ++ [e]) (es ++ [e]).length).isEmpty := by
  have hz : ∀ i, 0 ≤ tickM (xAt es) e i := fun i => by
    have h1 := tsAt_small es es.length (Nat.le_refl _) (by omega)
    have h2 := (tickM_ge h1 hl e i).1
    have h3 := h1.m0 e.t i
    exact Int.le_trans h3 h2
  rw [Bool.eq_iff_iff, foundB_iff]
  have e1 : (es ++ [e]).length = es.length + 1 := by simp
  have hlast : (es ++ [e])[es.length]? = some e := by simp
  rw [e1, rcsE, rcsE_app es [e] es.length (Nat.le_refl _), h0, hlast, List.nil_append]
  dsimp only
  have hck : ckAt (es ++ [e]) es.length = tickM (xAt es) e := ckAt_snoc es e
  have hr : ∀ i a, es[i]? = some a → raceE (es ++ [e]) es.length e i = (candB a e && decide (tickM (xAt es) e a.t < ckAt es i a.t)) := fun i a ha => by
    have hi := (List.getElem?_eq_some_iff.1 ha).1
    rw [race_cand (a := a) (by rw [List.getElem?_append_left hi]; exact ha), hck, ckAt_app es [e] i hi]
  constructor
  · rintro ⟨t, h1, h2, h3⟩
    obtain ⟨i, a, ha, hat, hc, _, _, _, hlt⟩ := (lateB_iff hw he hl hz).1 h3
    have hi := (List.getElem?_eq_some_iff.1 ha).1
    have hrt : raceE (es ++ [e]) es.length e i = true := by
      rw [hr i a ha, hc, hat]
      rw [hat] at hlt
      simp [h2, hlt]
    cases hf : (List.range es.length).find? (raceE (es ++ [e]) es.length e) with
    | none => exact absurd hrt (by have := List.find?_eq_none.1 hf i (List.mem_range.2 hi); simpa using this)
    | some q => simp [hf]
  · intro h
    cases hf : (List.range es.length).find? (raceE (es ++ [e]) es.length e) with
    | none => rw [hf] at h; simp at h
    | some i =>
      have hi := List.mem_range.1 (List.mem_of_find?_eq_some hf)
      have hrt := List.find?_some hf
      obtain ⟨a, ha⟩ := at_lt hi
      rw [hr i a ha, Bool.and_eq_true, decide_eq_true_eq] at hrt
      have hc := hrt.1
      unfold candB at hc
      simp only [Bool.and_eq_true, decide_eq_true_eq, Bool.not_eq_true', decide_eq_false_iff_not] at hc
      have hne : a.t ≠ e.t := hc.2.1
      refine ⟨a.t, ht a (List.mem_of_getElem? ha), hne, (lateB_iff hw he hl hz).2 ⟨i, a, ha, rfl, ?_, rfl, hc.1, ?_, hrt.2⟩⟩
      · rw [hrt.1]
        simp [hne]
      · simp only [Bool.and_eq_true, Bool.not_eq_true']
        exact ⟨by simpa using hc.2.2.1, by simpa using hc.2.2.2⟩
end Go.Proofs.Ytgbopmgeicokoaa
