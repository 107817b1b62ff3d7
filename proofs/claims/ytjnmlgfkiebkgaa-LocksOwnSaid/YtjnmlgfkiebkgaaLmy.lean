/-
  machine.Move, all cases.
-/
import Derived.Test.YtjnmlgfkiebkgaaLmw
import Derived.Test.YtjnmlgfkiebkgaaLmx
namespace Go.Proofs.Ytjnmlgfkiebkgaa
open Go.RowKit
set_option linter.unusedVariables false
set_option linter.unusedSimpArgs false

theorem kitF_none {a : Int} (h0 : a ≠ 120) (h1 : a ≠ 121) (h2 : a ≠ 122) (h3 : a ≠ 123) (h4 : a ≠ 124) (cv sv : Nat) : kitF cv sv a = .nilFunc := by
  have e0 : (a == 120) = false := by simpa using h0
  have e1 : (a == 121) = false := by simpa using h1
  have e2 : (a == 122) = false := by simpa using h2
  have e3 : (a == 123) = false := by simpa using h3
  have e4 : (a == 124) = false := by simpa using h4
  unfold kitF
  rw [e0, e1, e2, e3, e4]
  rfl
section
variable {W : World} {B : Nat} {M : ML} {m : Mc}
theorem move_any (K : KOk m.kd) (H : MM W B M m) (v : Mo) (hvr : -9223372036854775808 ≤ v.op ∧ v.op ≤ 9223372036854775807) :
    Calls Try.prog 29 #[.pointer (some ⟨M.x, 0, none⟩), moV v] W (MvR B M W (m.move v)) := by
  have hlog := H.nm.1
  have hcl := H.nm.2.2
  obtain ⟨vth, vop, varg, vdat⟩ := v
  dsimp only at hvr
  unfold Mc.move
  dsimp only
  by_cases hm : 65536 ≤ m.moves
  · rw [show decide (65536 ≤ m.moves) = true by simpa using hm]
    exact move_full H hlog hm vth vop varg vdat
  rw [show decide (65536 ≤ m.moves) = false by simpa using hm]
  have hm : m.moves < 65536 := by omega
  by_cases hn : vth < 0
  · rw [show decide (vth < 0) = true by simpa using hn]
    exact move_neg H hlog hm vth vop hn varg vdat
  rw [show decide (vth < 0) = false by simpa using hn]
  dsimp only [cond_false]
  obtain ⟨t, rfl⟩ : ∃ t : Nat, vth = t := ⟨vth.toNat, by omega⟩
  rw [Int.toNat_natCast]
  cases hh : m.ths[t]? with
  | none =>
    have := List.getElem?_eq_none_iff.1 hh
    exact move_big H hlog hm t vop (by omega) (by omega) varg vdat
  | some h =>
    dsimp only
    cases hp : h.task with
    | some p =>
      dsimp only
      by_cases ho : vop = 0
      · subst ho
        exact move_step H hlog K hm hh hp varg vdat
      · rw [show (vop == 0) = false by simpa using ho]
        exact move_busy H hlog hm vop ho hh hp varg vdat
    | none =>
      dsimp only
      by_cases ho : vop = 0
      · subst ho
        exact move_idle H hlog hm hh hp varg vdat
      rw [show (vop == 0) = false by simpa using ho]
      dsimp only [cond_false]
      by_cases h0 : vop = 120
      · subst h0
        cases hal : h.alone with
        | true =>
          have e : m.make h 120 = none := by unfold Mc.make; rw [hal]; rfl
          rw [e]
          exact move120_0 H hlog hm hh hp hal varg vdat
        | false =>
          cases hsh : h.shares with
          | true =>
            have e : m.make h 120 = none := by unfold Mc.make; rw [hal, hsh]; rfl
            rw [e]
            exact move120_1 H hlog hm hh hp hal hsh varg vdat
          | false =>
            have e : m.make h 120 = some .acq := by unfold Mc.make; rw [hal, hsh]; rfl
            rw [e]
            exact move120_2 H hlog hcl hm hh hp hal hsh varg vdat
      by_cases h1 : vop = 121
      · subst h1
        cases hal : h.alone with
        | true =>
          have e : m.make h 121 = some .rel := by unfold Mc.make; rw [hal]; rfl
          rw [e]
          exact move121_0 H hlog hcl hm hh hp hal varg vdat
        | false =>
          have e : m.make h 121 = none := by unfold Mc.make; rw [hal]; rfl
          rw [e]
          exact move121_1 H hlog hm hh hp hal varg vdat
      by_cases h2 : vop = 122
      · subst h2
        cases hkd : m.kd != 7 with
        | true =>
          have e : m.make h 122 = none := by unfold Mc.make; rw [hkd]; rfl
          rw [e]
          exact move122_0 H hlog hm hh hp hkd varg vdat
        | false =>
          cases hal : h.alone with
          | true =>
            have e : m.make h 122 = none := by unfold Mc.make; rw [hkd, hal]; rfl
            rw [e]
            exact move122_1 H hlog hm hh hp hkd hal varg vdat
          | false =>
            cases hsh : h.shares with
            | true =>
              have e : m.make h 122 = none := by unfold Mc.make; rw [hkd, hal, hsh]; rfl
              rw [e]
              exact move122_2 H hlog hm hh hp hkd hal hsh varg vdat
            | false =>
              have e : m.make h 122 = some (.shr 1 0 false) := by unfold Mc.make; rw [hkd, hal, hsh]; rfl
              rw [e]
              exact move122_3 H hlog hcl hm hh hp hkd hal hsh varg vdat
      by_cases h3 : vop = 123
      · subst h3
        cases hsh : h.shares with
        | true =>
          have e : m.make h 123 = some (.shr (-1) 0 false) := by unfold Mc.make; rw [hsh]; rfl
          rw [e]
          exact move123_0 H hlog hcl hm hh hp hsh varg vdat
        | false =>
          have e : m.make h 123 = none := by unfold Mc.make; rw [hsh]; rfl
          rw [e]
          exact move123_1 H hlog hm hh hp hsh varg vdat
      by_cases h4 : vop = 124
      · subst h4
        cases hal : h.alone with
        | true =>
          have e : m.make h 124 = some (.tch 0 false) := by unfold Mc.make; rw [hal]; rfl
          rw [e]
          exact move124_0 H hlog hcl hm hh hp hal varg vdat
        | false =>
          have e : m.make h 124 = none := by unfold Mc.make; rw [hal]; rfl
          rw [e]
          exact move124_1 H hlog hm hh hp hal varg vdat
      have e : m.make h vop = none := by
        unfold Mc.make
        rw [show (vop == 120) = false by simpa using h0, show (vop == 121) = false by simpa using h1, show (vop == 122) = false by simpa using h2, show (vop == 123) = false by simpa using h3, show (vop == 124) = false by simpa using h4]
        rfl
      rw [e]
      exact move_nokit H hlog hm vop ho hvr (kitF_none h0 h1 h2 h3 h4) hh hp varg vdat
end
end Go.Proofs.Ytjnmlgfkiebkgaa
