/-
  The order of accesses by their clocks, plain: strict, with the trace, transitive, within a thread, and where a load sees a store.
-/
import Derived.Test.YtgbopmgeicokoaaBefo
namespace Go.Proofs.Ytgbopmgeicokoaa
open Go.RowKit

/-- how many of the first m accesses are of thread t -/
def cntT (tr : List Acc) (t : Nat) : Nat → Int
  | 0 => 0
  | m + 1 => cntT tr t m + (match tr[m]? with | some x => if x.thread.toNat = t then 1 else 0 | none => 0)
theorem cntT_own {tr : List Acc} {m : Nat} {x : Acc} (hx : tr[m]? = some x) : cntT tr x.thread.toNat (m + 1) = cntT tr x.thread.toNat m + 1 := by
  show _ + (match tr[m]? with | some x' => if x'.thread.toNat = x.thread.toNat then (1 : Int) else 0 | none => 0) = _
  rw [hx]
  simp
theorem cntT_other {tr : List Acc} {m t : Nat} {x : Acc} (hx : tr[m]? = some x) (ht : x.thread.toNat ≠ t) : cntT tr t (m + 1) = cntT tr t m := by
  show _ + (match tr[m]? with | some x' => if x'.thread.toNat = t then (1 : Int) else 0 | none => 0) = _
  rw [hx]
  simp [ht]
theorem cntT_step (tr : List Acc) (t m : Nat) : cntT tr t m ≤ cntT tr t (m + 1) := by
  show _ ≤ _ + (match tr[m]? with | some x' => if x'.thread.toNat = t then (1 : Int) else 0 | none => 0)
  split
  · split <;> omega
  · omega
theorem cntT_mono (tr : List Acc) (t : Nat) {m n : Nat} (h : m ≤ n) : cntT tr t m ≤ cntT tr t n := by
  induction n with
  | zero => obtain rfl : m = 0 := by omega
            exact Int.le_refl _
  | succ n ih =>
    rcases Nat.lt_or_ge m (n + 1) with hlt | hge
    · exact Int.le_trans (ih (by omega)) (cntT_step tr t n)
    · obtain rfl : m = n + 1 := by omega
      exact Int.le_refl _

/-- a clock that has seen an access has seen what that one had -/
def Closed (c : Cfg) (tr : List Acc) (m : Nat) (g : Clk) : Prop := ∀ (j : Nat) (x : Acc), j < m → tr[j]? = some x → outC c tr j x.thread.toNat ≤ g x.thread.toNat → ∀ t, outC c tr j t ≤ g t
structure Known (c : Cfg) (tr : List Acc) (m : Nat) (s : CS) : Prop where
  own : ∀ t, s.th t t = cntT tr t m
  th : ∀ u t, s.th u t ≤ cntT tr t m
  wd : ∀ w g, s.wd w = some g → ∀ t, g t ≤ cntT tr t m
  thJ : ∀ u, Closed c tr m (s.th u)
  wdJ : ∀ w g, s.wd w = some g → Closed c tr m g
theorem mine_cases (c : Cfg) (s : CS) (x : Acc) : mineC c s x = bump (s.th x.thread.toNat) x.thread.toNat ∨ ∃ g, s.wd x.addr = some g ∧ mineC c s x = maxC (bump (s.th x.thread.toNat) x.thread.toNat) g := by
  unfold mineC
  split
  · exact Or.inl rfl
  · split
    · exact Or.inl rfl
    · cases hg : s.wd x.addr with
      | none => exact Or.inl rfl
      | some g => exact Or.inr ⟨g, rfl, rfl⟩
section
variable {c : Cfg} {tr : List Acc} {m : Nat} {s : CS} {x : Acc}
theorem Known.bump_le (h : Known c tr m s) (hx : tr[m]? = some x) (t : Nat) : bump (s.th x.thread.toNat) x.thread.toNat t ≤ cntT tr t (m + 1) := by
  unfold bump
  by_cases ht : t = x.thread.toNat
  · subst ht
    rw [if_pos rfl, cntT_own hx, h.own]
    exact Int.le_refl _
  · rw [if_neg ht]
    exact Int.le_trans (h.th _ t) (cntT_step tr t m)
theorem Known.mine_le (h : Known c tr m s) (hx : tr[m]? = some x) (t : Nat) : mineC c s x t ≤ cntT tr t (m + 1) := by
  rcases mine_cases c s x with he | ⟨g, hg, he⟩
  · rw [he]; exact h.bump_le hx t
  · rw [he]
    unfold maxC
    split
    · exact Int.le_trans (h.wd _ g hg t) (cntT_step tr t m)
    · exact h.bump_le hx t
theorem Known.mine_own (h : Known c tr m s) (hx : tr[m]? = some x) : mineC c s x x.thread.toNat = cntT tr x.thread.toNat (m + 1) := by
  have hb : bump (s.th x.thread.toNat) x.thread.toNat x.thread.toNat = cntT tr x.thread.toNat (m + 1) := by
    unfold bump
    rw [if_pos rfl, cntT_own hx, h.own]
  rcases mine_cases c s x with he | ⟨g, hg, he⟩
  · rw [he, hb]
  · rw [he]
    unfold maxC
    rw [hb]
    have h1 := h.wd _ g hg x.thread.toNat
    have h2 := cntT_own hx
    rw [if_neg (by omega)]
end
theorem Known.mine_closed {c : Cfg} {tr : List Acc} {m : Nat} {x : Acc} (h : ∀ j, j ≤ m → Known c tr j (csAt c tr j)) (hx : tr[m]? = some x) : Closed c tr m (mineC c (csAt c tr m) x) := by
  have hm := h m (Nat.le_refl m)
  have hb : Closed c tr m (bump ((csAt c tr m).th x.thread.toNat) x.thread.toNat) := by
    intro j y hj hy hle t
    have hy1 : outC c tr j y.thread.toNat = cntT tr y.thread.toNat (j + 1) := by
      rw [outC_at hy]
      exact (h j (by omega)).mine_own hy
    have hmono := cntT_mono tr y.thread.toNat (show j + 1 ≤ m by omega)
    have key : outC c tr j y.thread.toNat ≤ (csAt c tr m).th x.thread.toNat y.thread.toNat := by
      by_cases ht : y.thread.toNat = x.thread.toNat
      · rw [hy1, ht, hm.own, ← ht]
        exact hmono
      · unfold bump at hle
        rwa [if_neg ht] at hle
    have h2 := hm.thJ x.thread.toNat j y hj hy key t
    unfold bump
    split <;> omega
  rcases mine_cases c (csAt c tr m) x with he | ⟨g, hg, he⟩
  · rw [he]; exact hb
  · rw [he]
    intro j y hj hy hle t
    have hle' : outC c tr j y.thread.toNat ≤ bump ((csAt c tr m).th x.thread.toNat) x.thread.toNat y.thread.toNat ∨ outC c tr j y.thread.toNat ≤ g y.thread.toNat := by
      unfold maxC at hle
      split at hle
      · exact Or.inr hle
      · exact Or.inl hle
    have h3 : outC c tr j t ≤ bump ((csAt c tr m).th x.thread.toNat) x.thread.toNat t ∨ outC c tr j t ≤ g t := by
      rcases hle' with h4 | h4
      · exact Or.inl (hb j y hj hy h4 t)
      · exact Or.inr (hm.wdJ _ g hg j y hj hy h4 t)
    unfold maxC
    split <;> omega
theorem known_next {c : Cfg} {tr : List Acc} {m : Nat} {x : Acc} (h : ∀ j, j ≤ m → Known c tr j (csAt c tr j)) (hx : tr[m]? = some x) : Known c tr (m + 1) (csAt c tr (m + 1)) := by
  have hm := h m (Nat.le_refl m)
  have hcl := Known.mine_closed h hx
  rw [csAt_next hx]
  have hnew : Closed c tr (m + 1) (mineC c (csAt c tr m) x) := by
    intro j y hj hy hle t
    rcases Nat.lt_or_ge j m with hlt | hge
    · exact hcl j y hlt hy hle t
    · obtain rfl : j = m := by omega
      rw [outC_at hx]
      exact Int.le_refl _
  have hold : ∀ g : Clk, Closed c tr m g → (∀ t, g t ≤ cntT tr t m) → Closed c tr (m + 1) g := by
    intro g hg hgl j y hj hy hle t
    rcases Nat.lt_or_ge j m with hlt | hge
    · exact hg j y hlt hy hle t
    · exfalso
      obtain rfl : j = m := by omega
      rw [hx] at hy
      injection hy with hy
      subst hy
      rw [outC_at hx, hm.mine_own hx, cntT_own hx] at hle
      have := hgl x.thread.toNat
      omega
  refine ⟨fun t => ?_, fun u t => ?_, fun w g hg t => ?_, fun u => ?_, fun w g hg => ?_⟩
  · show (if t = x.thread.toNat then mineC c (csAt c tr m) x else (csAt c tr m).th t) t = _
    by_cases ht : t = x.thread.toNat
    · rw [if_pos ht, ht]
      exact hm.mine_own hx
    · rw [if_neg ht, cntT_other hx (fun he => ht he.symm)]
      exact hm.own t
  · show (if u = x.thread.toNat then mineC c (csAt c tr m) x else (csAt c tr m).th u) t ≤ _
    by_cases hu : u = x.thread.toNat
    · rw [if_pos hu]
      exact hm.mine_le hx t
    · rw [if_neg hu]
      exact Int.le_trans (hm.th u t) (cntT_step tr t m)
  · have hg' : (if w = x.addr ∧ plainB c x.addr = false ∧ wroteB x = true then some (mineC c (csAt c tr m) x) else (csAt c tr m).wd w) = some g := hg
    split at hg'
    · injection hg' with hg'
      subst hg'
      exact hm.mine_le hx t
    · exact Int.le_trans (hm.wd w g hg' t) (cntT_step tr t m)
  · show Closed c tr (m + 1) (if u = x.thread.toNat then mineC c (csAt c tr m) x else (csAt c tr m).th u)
    split
    · exact hnew
    · exact hold _ (hm.thJ u) (hm.th u)
  · have hg' : (if w = x.addr ∧ plainB c x.addr = false ∧ wroteB x = true then some (mineC c (csAt c tr m) x) else (csAt c tr m).wd w) = some g := hg
    split at hg'
    · injection hg' with hg'
      subst hg'
      exact hnew
    · exact hold _ (hm.wdJ w g hg') (hm.wd w g hg')
theorem known_all (c : Cfg) (tr : List Acc) : ∀ m, m ≤ tr.length → ∀ j, j ≤ m → Known c tr j (csAt c tr j)
  | 0, _ => fun j hj => by
    obtain rfl : j = 0 := by omega
    exact ⟨fun _ => rfl, fun _ _ => Int.le_refl _, fun _ _ hg => (by cases hg), fun _ j x hj => absurd hj (by omega), fun _ _ hg => (by cases hg)⟩
  | m + 1, hm => fun j hj => by
    have ih := known_all c tr m (by omega)
    rcases Nat.lt_or_ge j (m + 1) with hlt | hge
    · exact ih j (by omega)
    · obtain rfl : j = m + 1 := by omega
      obtain ⟨x, hx⟩ := at_lt (show m < tr.length by omega)
      exact known_next ih hx

section
variable {c : Cfg} {tr : List Acc} {i j k : Nat} {x y : Acc}
theorem known_at (c : Cfg) (h : i ≤ tr.length) : Known c tr i (csAt c tr i) := known_all c tr i h i (Nat.le_refl i)
theorem at_lt' (hx : tr[i]? = some x) : i < tr.length := (List.getElem?_eq_some_iff.1 hx).1
theorem out_own (hx : tr[i]? = some x) : outC c tr i x.thread.toNat = cntT tr x.thread.toNat (i + 1) := by
  rw [outC_at hx]
  exact (known_at c (Nat.le_of_lt (at_lt' hx))).mine_own hx
theorem out_le (hx : tr[i]? = some x) (t : Nat) : outC c tr i t ≤ cntT tr t (i + 1) := by
  rw [outC_at hx]
  exact (known_at c (Nat.le_of_lt (at_lt' hx))).mine_le hx t
theorem out_closed (hx : tr[i]? = some x) : Closed c tr i (outC c tr i) := by
  rw [outC_at hx]
  exact Known.mine_closed (known_all c tr i (Nat.le_of_lt (at_lt' hx))) hx
theorem ahead_iff (hx : tr[i]? = some x) : aheadB c tr i j = true ↔ i ≠ j ∧ outC c tr i x.thread.toNat ≤ outC c tr j x.thread.toNat := by
  unfold aheadB
  rw [hx]
  simp
/-- with the trace -/
theorem ord_lt (hx : tr[i]? = some x) (hy : tr[j]? = some y) (h : aheadB c tr i j = true) : i < j := by
  obtain ⟨hne, hle⟩ := (ahead_iff hx).1 h
  rcases Nat.lt_or_ge i j with hlt | hge
  · exact hlt
  · exfalso
    rw [out_own hx, cntT_own hx] at hle
    have h1 := out_le (c := c) hy x.thread.toNat
    have h2 := cntT_mono tr x.thread.toNat (show j + 1 ≤ i by omega)
    omega
/-- transitive -/
theorem ord_trans {z : Acc} (hx : tr[i]? = some x) (hy : tr[j]? = some y) (hz : tr[k]? = some z) (h1 : aheadB c tr i j = true) (h2 : aheadB c tr j k = true) : aheadB c tr i k = true := by
  have l1 := ord_lt hx hy h1
  have l2 := ord_lt hy hz h2
  obtain ⟨_, a1⟩ := (ahead_iff hx).1 h1
  obtain ⟨_, a2⟩ := (ahead_iff hy).1 h2
  exact (ahead_iff hx).2 ⟨by omega, Int.le_trans a1 (out_closed hz j y l2 hy a2 _)⟩
/-- within a thread -/
theorem ord_thread (hx : tr[i]? = some x) (hy : tr[j]? = some y) (ht : x.thread = y.thread) (hij : i < j) : aheadB c tr i j = true := by
  refine (ahead_iff hx).2 ⟨by omega, ?_⟩
  rw [out_own hx, ht, out_own hy]
  exact cntT_mono tr _ (by omega)
/-- the clock of a word is that of its last writer -/
theorem wd_last (hx : tr[i]? = some x) (hp : plainB c x.addr = false) (hw : wroteB x = true) (hj : i < j) (hjl : j ≤ tr.length) (hno : ∀ q z, i < q → q < j → tr[q]? = some z → ¬ (z.addr = x.addr ∧ wroteB z = true)) : (csAt c tr j).wd x.addr = some (outC c tr i) := by
  induction j with
  | zero => omega
  | succ j ih =>
    rcases Nat.lt_or_ge i j with hlt | hge
    · obtain ⟨z, hz⟩ := at_lt (show j < tr.length by omega)
      have h1 := ih hlt (by omega) (fun q z' a b => hno q z' a (by omega))
      have h2 := hno j z hlt (by omega) hz
      rw [csAt_next hz]
      show (if x.addr = z.addr ∧ plainB c z.addr = false ∧ wroteB z = true then some (mineC c (csAt c tr j) z) else (csAt c tr j).wd x.addr) = _
      rw [if_neg (fun hh => h2 ⟨hh.1.symm, hh.2.2⟩), h1]
    · obtain rfl : i = j := by omega
      rw [csAt_next hx]
      show (if x.addr = x.addr ∧ plainB c x.addr = false ∧ wroteB x = true then some (mineC c (csAt c tr i) x) else (csAt c tr i).wd x.addr) = _
      rw [if_pos ⟨rfl, hp, hw⟩, outC_at hx]
/-- a load or a swap sees the last store -/
theorem ord_sees (hx : tr[i]? = some x) (hy : tr[j]? = some y) (hij : i < j) (ha : x.addr = y.addr) (hp : plainB c x.addr = false) (hk : ¬ y.kind = 2) (hw : wroteB x = true) (hno : ∀ q z, i < q → q < j → tr[q]? = some z → ¬ (z.addr = x.addr ∧ wroteB z = true)) : aheadB c tr i j = true := by
  refine (ahead_iff hx).2 ⟨by omega, ?_⟩
  have h1 := wd_last hx hp hw hij (Nat.le_of_lt (at_lt' hy)) hno
  rw [outC_at hy]
  unfold mineC
  rw [if_neg (by rw [← ha, hp]; decide), if_neg hk, ← ha, h1]
  show _ ≤ maxC _ _ _
  unfold maxC
  split <;> omega
end
end Go.Proofs.Ytgbopmgeicokoaa
