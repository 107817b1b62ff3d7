/-
  The session of any bytes, plain: as the program reads it and as the document does; the two are one.
-/
import Derived.Test.YtgbopmgeicokoaaRdT
import Derived.Test.YtgbopmgeicokoaaImg
namespace Go.Proofs.Ytgbopmgeicokoaa
open Go.RowKit

abbrev Rdr := Rs → Nat × Rs
def numG (r : Rdr) (s : Rs) : Nat × Rs := if 9223372036854775808 ≤ (r s).1 then (0, (r s).2.1, true) else r s
theorem numS_eq (s : Rs) : numS s = numG cntS s := rfl
theorem numT_eq (s : Rs) : numT s = numG cntT s := rfl
def numsG (r : Rdr) : Nat → Rs → List Nat × Rs
  | 0, s => ([], s)
  | k + 1, s => ((numsG r k s).1 ++ [(numG r (numsG r k s).2).1], (numG r (numsG r k s).2).2)
/-- four signed numbers: a move -/
def mvG (r : Rdr) (s : Rs) : Mv × Rs :=
  (⟨unsg (r s).1, unsg (r (r s).2).1, unsg (r (r (r s).2).2).1, unsg (r (r (r (r s).2).2).2).1⟩, (r (r (r (r s).2).2).2).2)
def mvsG (r : Rdr) : Nat → Rs → List Mv × Rs
  | 0, s => ([], s)
  | k + 1, s => ((mvsG r k s).1 ++ [(mvG r (mvsG r k s).2).1], (mvG r (mvsG r k s).2).2)
def zeroSes : Ses := ⟨0, ⟨0, 0, 0, 0, 0, 0, 0⟩, 0, 0, 0, 0, 0, 0, 0, 0⟩
def manyN (kind : Nat) : Nat := if kind = 1 ∨ kind = 2 then 7 else if 3 ≤ kind ∧ kind ≤ 6 then 2 else 0
/-- the session of a kind with these numbers -/
def madeS (kind : Nat) (ns : List Nat) : Ses :=
  let f := fun i : Nat => ((ns[i]?.getD 0 : Nat) : Int)
  if kind = 1 ∨ kind = 2 then ⟨kind, ⟨f 0, f 1, f 2, f 3, f 4, f 5, f 6⟩, 0, 0, 0, 0, 0, 0, 0, 0⟩
  else if kind = 3 then ⟨kind, ⟨0, 0, 0, 0, 0, 0, 0⟩, f 0, f 1, 0, 0, 0, 0, 0, 0⟩
  else if kind = 4 then ⟨kind, ⟨0, 0, 0, 0, 0, 0, 0⟩, 0, 0, f 0, f 1, 0, 0, 0, 0⟩
  else if kind = 5 then ⟨kind, ⟨0, 0, 0, 0, 0, 0, 0⟩, 0, 0, 0, 0, f 0, f 1, 0, 0⟩
  else if kind = 6 then ⟨kind, ⟨0, 0, 0, 0, 0, 0, 0⟩, 0, 0, 0, 0, 0, 0, f 0, f 1⟩
  else ⟨kind, ⟨0, 0, 0, 0, 0, 0, 0⟩, 0, 0, 0, 0, 0, 0, 0, 0⟩
abbrev Ld := Int × Ses × List Mv
abbrev noLd (e : Int) : Ld := (e, zeroSes, [])
/-- what is ahead of the numbers: an error, or the kind and the bytes behind it -/
def headL (l : List Nat) : Int ⊕ (Nat × List Nat) :=
  if 4194304 < l.length then .inl 3
  else if l.length < 9 ∨ l.take 4 ≠ [82, 67, 76, 1] then .inl 281
  else if l.drop (l.length - 4) ≠ leB (crcS (l.take (l.length - 4))) 4 then .inl 282
  else if manyN (l[4]?.getD 0) = 0 then .inl 281
  else .inr (l[4]?.getD 0, (l.take (l.length - 4)).drop 5)
/-- .. behind the moves -/
def tailL (kind : Nat) (ns : List Nat) (n : Nat) (ms : List Mv × Rs) : Ld :=
  if ms.2.2 = true ∨ ms.2.1 ≠ [] then noLd 281 else if sesErr (madeS kind ns) n ≠ 0 then noLd (sesErr (madeS kind ns) n) else (0, madeS kind ns, ms.1)
def loadP (l : List Nat) : Ld := match headL l with
  | .inl e => noLd e
  | .inr (kind, d) =>
    let p := numsG cntS (manyN kind) (d, false)
    let q := numG cntS p.2
    if q.2.2 = true ∨ q.2.1.length / 4 < q.1 then noLd 281 else tailL kind p.1 q.1 (mvsG cntS q.1 q.2)
def loadR (l : List Nat) : Ld := match headL l with
  | .inl e => noLd e
  | .inr (kind, d) =>
    let p := numsG cntT (manyN kind) (d, false)
    let q := numG cntT p.2
    if q.2.2 = true then noLd 281 else tailL kind p.1 q.1 (mvsG cntT q.1 q.2)

/-- both good and the same, or both bad -/
def RelS (a b : Rs) : Prop := (a = b ∧ a.2 = false) ∨ (a.2 = true ∧ b.2 = true)
theorem cntPQ : ∀ (l : List Nat) (i n : Nat), (∀ m l', cntP i n l = some (m, l') → cntQ i n l = some (m, l', false)) ∧ (cntP i n l = none → cntQ i n l = none ∨ ∃ m l', cntQ i n l = some (m, l', true))
  | [], i, n => ⟨fun m l' h => (by cases h), fun _ => Or.inl rfl⟩
  | x :: l, i, n => by
    by_cases hb : 9 < i ∨ (i = 9 ∧ 1 < x)
    · rw [cntP_bad (by omega), cntQ_bad hb]
      exact ⟨fun m l' h => (by cases h), fun _ => Or.inl rfl⟩
    · by_cases hz : 0 < i ∧ x = 0
      · rw [cntP_bad (by omega), cntQ_last hb (by omega)]
        exact ⟨fun m l' h => (by cases h), fun _ => Or.inr ⟨_, _, (by rw [decide_eq_true hz])⟩⟩
      · by_cases hx : x < 128
        · rw [cntP_last (by omega) hx, cntQ_last hb hx, decide_eq_false hz]
          exact ⟨fun m l' h => (by injection h with h; injection h with h1 h2; rw [h1, h2]), fun h => (by cases h)⟩
        · rw [cntP_more (by omega) hx, cntQ_more hb hx]
          exact cntPQ l (i + 1) _
theorem cnt_rel {a b : Rs} (h : RelS a b) : RelS (cntS a).2 (cntT b).2 ∧ ((cntS a).2.2 = false → (cntS a).1 = (cntT b).1) := by
  rcases h with ⟨rfl, hg⟩ | ⟨ha, hb⟩
  · obtain ⟨h1, h2⟩ := cntPQ a.1 0 0
    unfold cntS cntT
    cases hp : cntP 0 0 a.1 with
    | some p =>
      obtain ⟨m, l'⟩ := p
      rw [h1 m l' hp]
      exact ⟨Or.inl ⟨by simp, hg⟩, fun _ => rfl⟩
    | none =>
      rcases h2 hp with hq | ⟨m, l', hq⟩
      · rw [hq]
        exact ⟨Or.inr ⟨rfl, rfl⟩, fun hh => by cases hh⟩
      · rw [hq]
        exact ⟨Or.inr ⟨rfl, by simp⟩, fun hh => by cases hh⟩
  · have h3 : (cntS a).2.2 = true := by
      unfold cntS
      cases cntP 0 0 a.1 with
      | some p => exact ha
      | none => rfl
    have h4 : (cntT b).2.2 = true := by
      unfold cntT
      cases cntQ 0 0 b.1 with
      | some p => simp [hb]
      | none => rfl
    exact ⟨Or.inr ⟨h3, h4⟩, fun hh => by rw [h3] at hh; cases hh⟩
theorem relS_good {a b : Rs} (h : RelS a b) (hg : a.2 = false) : a = b := by
  rcases h with ⟨rfl, _⟩ | ⟨ha, _⟩
  · rfl
  · rw [hg] at ha; cases ha
theorem relS_bad {a b : Rs} (h : RelS a b) : a.2 = b.2 := by
  rcases h with ⟨rfl, _⟩ | ⟨ha, hb⟩
  · rfl
  · rw [ha, hb]
theorem num_rel {a b : Rs} (h : RelS a b) : RelS (numG cntS a).2 (numG cntT b).2 ∧ ((numG cntS a).2.2 = false → (numG cntS a).1 = (numG cntT b).1) := by
  obtain ⟨h1, h2⟩ := cnt_rel h
  rcases h1 with ⟨he, hg⟩ | ⟨ha, hb⟩
  · have hv := h2 hg
    have hp : cntS a = cntT b := Prod.ext hv he
    unfold numG
    rw [hp]
    split
    · exact ⟨Or.inr ⟨rfl, rfl⟩, fun hh => by cases hh⟩
    · rw [hp] at hg
      exact ⟨Or.inl ⟨rfl, hg⟩, fun _ => rfl⟩
  · have h3 : (numG cntS a).2.2 = true := by unfold numG; split <;> first | rfl | exact ha
    have h4 : (numG cntT b).2.2 = true := by unfold numG; split <;> first | rfl | exact hb
    exact ⟨Or.inr ⟨h3, h4⟩, fun hh => by rw [h3] at hh; cases hh⟩
theorem cntS_stay {s : Rs} (h : (cntS s).2.2 = false) : s.2 = false := by
  unfold cntS at h
  cases hp : cntP 0 0 s.1 with
  | some p => rw [hp] at h; exact h
  | none => rw [hp] at h; cases h
theorem cntT_good {s : Rs} (h : (cntT s).2.2 = false) : s.2 = false ∧ (cntT s).2.1.length < s.1.length := by
  unfold cntT at h ⊢
  cases hp : cntQ 0 0 s.1 with
  | some p =>
    obtain ⟨m, l', b⟩ := p
    rw [hp] at h
    simp at h
    exact ⟨h.1, (cntQ_lt (by simp) hp).2⟩
  | none => rw [hp] at h; cases h
theorem numS_stay {s : Rs} (h : (numG cntS s).2.2 = false) : s.2 = false := by
  unfold numG at h
  split at h
  · cases h
  · exact cntS_stay h
theorem nums_rel {a b : Rs} (h : RelS a b) : ∀ k, RelS (numsG cntS k a).2 (numsG cntT k b).2 ∧ ((numsG cntS k a).2.2 = false → (numsG cntS k a).1 = (numsG cntT k b).1)
  | 0 => ⟨h, fun _ => rfl⟩
  | k + 1 => by
    obtain ⟨h1, h2⟩ := nums_rel h k
    obtain ⟨h3, h4⟩ := num_rel h1
    refine ⟨h3, fun hg => ?_⟩
    show _ ++ [_] = _ ++ [_]
    rw [h2 (numS_stay hg), h4 hg]
theorem mv_rel {a b : Rs} (h : RelS a b) : RelS (mvG cntS a).2 (mvG cntT b).2 ∧ ((mvG cntS a).2.2 = false → (mvG cntS a).1 = (mvG cntT b).1) := by
  obtain ⟨h1, v1⟩ := cnt_rel h
  obtain ⟨h2, v2⟩ := cnt_rel h1
  obtain ⟨h3, v3⟩ := cnt_rel h2
  obtain ⟨h4, v4⟩ := cnt_rel h3
  refine ⟨h4, fun hg => ?_⟩
  have g3 := cntS_stay hg
  have g2 := cntS_stay g3
  have g1 := cntS_stay g2
  show Mv.mk _ _ _ _ = Mv.mk _ _ _ _
  rw [v4 hg, v3 g3, v2 g2, v1 g1]
theorem mvS_stay {s : Rs} (h : (mvG cntS s).2.2 = false) : s.2 = false := cntS_stay (cntS_stay (cntS_stay (cntS_stay h)))
theorem mvs_rel {a b : Rs} (h : RelS a b) : ∀ k, RelS (mvsG cntS k a).2 (mvsG cntT k b).2 ∧ ((mvsG cntS k a).2.2 = false → (mvsG cntS k a).1 = (mvsG cntT k b).1)
  | 0 => ⟨h, fun _ => rfl⟩
  | k + 1 => by
    obtain ⟨h1, h2⟩ := mvs_rel h k
    obtain ⟨h3, h4⟩ := mv_rel h1
    refine ⟨h3, fun hg => ?_⟩
    show _ ++ [_] = _ ++ [_]
    rw [h2 (mvS_stay hg), h4 hg]
theorem mvT_good {s : Rs} (h : (mvG cntT s).2.2 = false) : s.2 = false ∧ (mvG cntT s).2.1.length + 4 ≤ s.1.length := by
  have h4 := cntT_good h
  have h3 := cntT_good h4.1
  have h2 := cntT_good h3.1
  have h1 := cntT_good h2.1
  refine ⟨h1.1, ?_⟩
  have e4 := h4.2
  have e3 := h3.2
  have e2 := h2.2
  have e1 := h1.2
  show (cntT (cntT (cntT (cntT s).2).2).2).2.1.length + 4 ≤ _
  omega
theorem mvsT_good {s : Rs} : ∀ k, (mvsG cntT k s).2.2 = false → s.2 = false ∧ (mvsG cntT k s).2.1.length + 4 * k ≤ s.1.length
  | 0, h => ⟨h, by show s.1.length + 0 ≤ _; omega⟩
  | k + 1, h => by
    have h1 := mvT_good h
    have h2 := mvsT_good k h1.1
    refine ⟨h2.1, ?_⟩
    have e1 := h1.2
    have e2 := h2.2
    show (mvG cntT (mvsG cntT k s).2).2.1.length + 4 * (k + 1) ≤ _
    omega
theorem load_eq (l : List Nat) : loadP l = loadR l := by
  unfold loadP loadR
  cases headL l with
  | inl e => rfl
  | inr kd =>
    obtain ⟨kind, d⟩ := kd
    obtain ⟨h1, v1⟩ := nums_rel (a := (d, false)) (b := (d, false)) (Or.inl ⟨rfl, rfl⟩) (manyN kind)
    obtain ⟨h2, v2⟩ := num_rel h1
    dsimp only
    cases hb : (numG cntS (numsG cntS (manyN kind) (d, false)).2).2.2 with
    | true =>
      rw [if_pos (Or.inl rfl), if_pos (by rw [← relS_bad h2]; exact hb)]
    | false =>
      have hs := relS_good h2 hb
      have hv := v2 hb
      have hn := v1 (numS_stay hb)
      have hb2 : (numG cntT (numsG cntT (manyN kind) (d, false)).2).2.2 = false := by rw [← hs]; exact hb
      rw [hn, hv, hs, hb2]
      obtain ⟨q, hq⟩ : ∃ q, q = numG cntT (numsG cntT (manyN kind) (d, false)).2 := ⟨_, rfl⟩
      rw [← hq] at hb2 ⊢
      rw [if_neg (by decide : ¬ (false = true))]
      obtain ⟨h3, v3⟩ := mvs_rel (a := q.2) (b := q.2) (Or.inl ⟨rfl, hb2⟩) q.1
      by_cases hm : q.2.1.length / 4 < q.1
      · rw [if_pos (Or.inr hm)]
        cases hg : (mvsG cntT q.1 q.2).2.2 with
        | true => unfold tailL; rw [if_pos (Or.inl hg)]
        | false => have := (mvsT_good q.1 hg).2; omega
      · rw [if_neg (by rintro (hh | hh); exact absurd hh (by decide); exact hm hh)]
        cases hg : (mvsG cntS q.1 q.2).2.2 with
        | true =>
          unfold tailL
          rw [if_pos (Or.inl hg), if_pos (Or.inl (by rw [← relS_bad h3]; exact hg))]
        | false => rw [Prod.ext (v3 hg) (relS_good h3 hg)]
end Go.Proofs.Ytgbopmgeicokoaa
