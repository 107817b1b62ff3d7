/-
  races.Pairs.
-/
import Derived.Test.YtgbopmgeicokoaaEvs
import Derived.Test.YtgbopmgeicokoaaTick
import Derived.Test.YtgbopmgeicokoaaClk0
namespace Go.Proofs.Ytgbopmgeicokoaa
open Go.RowKit
set_option linter.unusedVariables false
set_option linter.unusedSimpArgs false

theorem info_rc : (Try.prog.info? 164).map (fun i => (i.zero, i.size, i.bytes)) = some (some (.agg #[.int .i64 0, .int .i64 0, .int .i64 0]), 3, 24) := by kernel_rfl
def candB (a b : Ev) : Bool := decide (a.a = b.a) && (!decide (a.t = b.t) && ((a.wr || b.wr) && !(decide (a.k = 3) && decide (b.k = 3))))
theorem race_cand {es : List Ev} {j i : Nat} {a b : Ev} (h : es[i]? = some a) : raceE es j b i = (candB a b && decide (ckAt es j a.t < ckAt es i a.t)) := by
  rw [raceE_at h]
  unfold candB
  simp only [Bool.and_assoc]
theorem find_one {p : Nat → Bool} {i j : Nat} (h : ∀ q, q < i → p q = false) (hp : p i = true) (hij : i < j) : (List.range j).find? p = some i := by
  rw [List.find?_range_eq_some]
  exact ⟨hp, List.mem_range.2 hij, fun q hq => by rw [h q hq]; rfl⟩
theorem find_no {p : Nat → Bool} {j : Nat} (h : ∀ q, q < j → p q = false) : (List.range j).find? p = none := by
  rw [List.find?_eq_none]
  intro q hq
  rw [h q (List.mem_range.1 hq)]
  decide
/-- what holds of every event -/
def EvOk (l : Lit) (e : Ev) : Prop := e.t < l.tn ∧ e.a < l.wn
theorem evOf_ok {l : Lit} (hok : okLit l = true) {S : LS} {u : Tn} {e : Ev} (he : evOf l S u = some e) : EvOk l e := by
  unfold evOf at he
  cases hp : pickS l S u with
  | none => rw [hp] at he; cases he
  | some x =>
    rw [hp] at he
    unfold pickS at hp
    by_cases hc : 0 ≤ u.t ∧ u.t < (l.tn : Int) ∧ u.out = false
    · rw [if_pos hc] at hp
      have ht : u.t.toNat < l.tn := by omega
      unfold codeOf at hp
      cases hth : l.th[u.t.toNat]? with
      | none => rw [hth] at hp; simp at hp
      | some y =>
        rw [hth] at hp
        have hx := (okLit_code hok hth).2 x (List.mem_of_getElem? hp)
        have ha : x.kind = 1 ∨ x.kind = 2 ∨ x.kind = 3 → x.addr.toNat < l.wn := by
          intro hk
          have h9 := hx
          unfold okIns at h9
          by_cases k1 : x.kind = 1 ∨ x.kind = 3
          · rw [if_pos k1, Bool.and_eq_true] at h9
            obtain ⟨ad, h1, h2⟩ := adr_of h9.2
            omega
          · rw [if_neg k1, if_pos (by omega), Bool.and_eq_true] at h9
            obtain ⟨ad, h1, h2⟩ := adr_of h9.1
            omega
        simp only [eventS] at he
        by_cases k1 : x.kind = 1
        · rw [if_pos k1] at he
          injection he with he
          subst he
          exact ⟨ht, ha (Or.inl k1)⟩
        · rw [if_neg k1] at he
          by_cases k2 : x.kind = 2
          · rw [if_pos k2] at he
            injection he with he
            subst he
            exact ⟨ht, ha (Or.inr (Or.inl k2))⟩
          · rw [if_neg k2] at he
            by_cases k3 : x.kind = 3
            · rw [if_pos k3] at he
              injection he with he
              subst he
              exact ⟨ht, ha (Or.inr (Or.inr k3))⟩
            · rw [if_neg k3] at he
              cases he
    · rw [if_neg hc] at hp
      cases hp
theorem of_decide_eq {p : Prop} [Decidable p] {b : Bool} (h : decide p = b) : (p ↔ b = true) := by rw [← h]; simp
end Go.Proofs.Ytgbopmgeicokoaa
