/-
  The seven rules under one name: what a rule leaves ahead of the place's own step.
-/
import Derived.Test.YtgbopmgeicokoaaWk
namespace Go.Proofs.Ytgbopmgeicokoaa
open Go.RowKit

/-- the state behind a rule, ahead of the place's own step -/
def midS (S : LS) (t : Nat) (x : Ins) : LS := ⟨(effS S t x).ws, (effS S t x).rs, if x.kind = 7 ∧ S.r t x.reg.toNat = x.value then S.ps.set t (S.p t + x.count.toNat) else S.ps⟩
theorem midS_p {S : LS} {t : Nat} {x : Ins} (ht : t < S.ps.length) : (midS S t x).p t = S.p t + skipS S t x := by
  unfold midS skipS LS.p
  split
  · simp [List.getD_eq_getElem?_getD, ht]
  · simp
theorem mid_next {S : LS} {t c : Nat} {x : Ins} (ht : t < S.ps.length) : nextS S t c x = ⟨(midS S t x).ws, (midS S t x).rs, (midS S t x).ps.set t (min ((midS S t x).p t + 1) c)⟩ := by
  rw [midS_p ht]
  unfold nextS midS
  dsimp only
  split
  · rw [List.set_set]
  · rfl
theorem reg_of {x : Ins} (h : regB x = true) : ∃ rg : Nat, x.reg = rg ∧ rg < 4 := by
  unfold regB at h
  simp at h
  exact ⟨x.reg.toNat, by omega, by omega⟩
theorem adr_of {x : Ins} {nw : Nat} (h : adrB nw x = true) : ∃ ad : Nat, x.addr = ad ∧ ad < nw := by
  unfold adrB at h
  simp at h
  exact ⟨x.addr.toNat, by omega, by omega⟩
section
variable {W : World} {gk gs : Nat} {h : SH} {n nw : Nat} {S : LS} {t : Nat} {x : Ins}
theorem WkR.eq {S1 S2 : LS} {b : Bool} {e : Ending} {W' : World} (h1 : WkR h n nw S1 b W e W') (he : S1 = S2) : WkR h n nw S2 b W e W' := he ▸ h1
theorem rule_load (H : WkAt W gk gs h n nw S t x) (hk : x.kind = 1) (hok : okIns nw x = true) : Calls Try.prog 154 #[.pointer (some ⟨gk, 0, none⟩)] W (WkR h n nw (midS S t x) true W) := by
  unfold okIns at hok
  rw [if_pos (by omega), Bool.and_eq_true] at hok
  obtain ⟨rg, hr, hr4⟩ := reg_of hok.1
  obtain ⟨ad, ha, ha4⟩ := adr_of hok.2
  refine (wload_any W gk gs h n nw S t _ _ _ _ _ _ _ H rg hr hr4 ad ha ha4).mono fun e W' h9 => h9.eq ?_
  unfold midS effS
  simp [hk, hr, ha]
theorem rule_store (H : WkAt W gk gs h n nw S t x) (hk : x.kind = 2) (hok : okIns nw x = true) : Calls Try.prog 155 #[.pointer (some ⟨gk, 0, none⟩)] W (WkR h n nw (midS S t x) true W) := by
  unfold okIns at hok
  rw [if_neg (by omega), if_pos hk, Bool.and_eq_true, Bool.and_eq_true, decide_eq_true_eq, decide_eq_true_eq] at hok
  obtain ⟨ad, ha, ha4⟩ := adr_of hok.1
  by_cases hs : x.src < 0
  · refine (wstorev_any W gk gs h n nw S t _ _ _ _ _ _ _ H hs ad ha ha4).mono fun e W' h9 => h9.eq ?_
    unfold midS effS
    simp [hk, ha, show ¬ 0 ≤ x.src by omega]
  · obtain ⟨sr, hsr⟩ : ∃ sr : Nat, x.src = sr := ⟨x.src.toNat, by omega⟩
    refine (wstore_any W gk gs h n nw S t _ _ _ _ _ _ _ H ad ha ha4 sr hsr (by omega)).mono fun e W' h9 => h9.eq ?_
    unfold midS effS
    simp [hk, ha, hsr]
theorem rule_swap (H : WkAt W gk gs h n nw S t x) (hk : x.kind = 3) (hok : okIns nw x = true) : Calls Try.prog 156 #[.pointer (some ⟨gk, 0, none⟩)] W (WkR h n nw (midS S t x) true W) := by
  unfold okIns at hok
  rw [if_pos (by omega), Bool.and_eq_true] at hok
  obtain ⟨rg, hr, hr4⟩ := reg_of hok.1
  obtain ⟨ad, ha, ha4⟩ := adr_of hok.2
  by_cases he : S.w x.addr.toNat = x.old
  · refine (wswap_yes W gk gs h n nw S t _ _ _ _ _ _ _ H he rg hr hr4 ad ha ha4).mono fun e W' h9 => h9.eq ?_
    unfold midS effS
    rw [ha] at he
    simp at he
    simp [hk, hr, ha, he]
  · refine (wswap_no W gk gs h n nw S t _ _ _ _ _ _ _ H he rg hr hr4 ad ha ha4).mono fun e W' h9 => h9.eq ?_
    unfold midS effS
    rw [ha] at he
    simp at he
    simp [hk, hr, ha, he]
theorem rule_fence (H : WkAt W gk gs h n nw S t x) (hk : x.kind = 4) : Calls Try.prog 157 #[.pointer (some ⟨gk, 0, none⟩)] W (WkR h n nw (midS S t x) true W) := by
  refine (drained_any W gk gs h n nw S t _ _ _ _ _ _ _ H).mono ?_
  rintro e W' ⟨rfl, m, rfl⟩
  have : midS S t x = S := by unfold midS effS; simp [hk]
  rw [this]
  exact ⟨rfl, (H.on ((Below.refl _ _).drewN _)).st, Fr.of ((Below.refl _ _).drewN _)⟩
theorem rule_set (H : WkAt W gk gs h n nw S t x) (hk : x.kind = 5) (hok : okIns nw x = true) : Calls Try.prog 158 #[.pointer (some ⟨gk, 0, none⟩)] W (WkR h n nw (midS S t x) true W) := by
  unfold okIns at hok
  rw [if_neg (by omega), if_neg (by omega), if_neg (by omega), if_pos (by omega)] at hok
  obtain ⟨rg, hr, hr4⟩ := reg_of hok
  refine (wset_any W gk gs h n nw S t _ _ _ _ _ _ _ H rg hr hr4).mono fun e W' h9 => h9.eq ?_
  unfold midS effS
  simp [hk, hr]
theorem rule_add (H : WkAt W gk gs h n nw S t x) (hk : x.kind = 6) (hok : okIns nw x = true) : Calls Try.prog 159 #[.pointer (some ⟨gk, 0, none⟩)] W (WkR h n nw (midS S t x) true W) := by
  unfold okIns at hok
  rw [if_neg (by omega), if_neg (by omega), if_neg (by omega), if_pos (by omega)] at hok
  obtain ⟨rg, hr, hr4⟩ := reg_of hok
  refine (wadd_any W gk gs h n nw S t _ _ _ _ _ _ _ H rg hr hr4).mono fun e W' h9 => h9.eq ?_
  unfold midS effS
  simp [hk, hr]
theorem rule_skip (H : WkAt W gk gs h n nw S t x) (hk : x.kind = 7) (hok : okIns nw x = true) (hp : S.p t ≤ 10) : Calls Try.prog 160 #[.pointer (some ⟨gk, 0, none⟩)] W (WkR h n nw (midS S t x) true W) := by
  unfold okIns at hok
  rw [if_neg (by omega), if_neg (by omega), if_neg (by omega), if_neg (by omega), if_pos hk, Bool.and_eq_true, Bool.and_eq_true, decide_eq_true_eq, decide_eq_true_eq] at hok
  obtain ⟨rg, hr, hr4⟩ := reg_of hok.1
  obtain ⟨cn, hc⟩ : ∃ cn : Nat, x.count = cn := ⟨x.count.toNat, by omega⟩
  by_cases he : S.r t x.reg.toNat = x.value
  · refine (wskip_yes W gk gs h n nw S t _ _ _ _ _ _ _ H he rg hr hr4 cn hc (by omega) hp).mono fun e W' h9 => h9.eq ?_
    unfold midS effS
    simp [hk, he, hc]
  · refine (wskip_no W gk gs h n nw S t _ _ _ _ _ _ _ H he rg hr hr4).mono fun e W' h9 => h9.eq ?_
    unfold midS effS
    simp [hk, he]
end
end Go.Proofs.Ytgbopmgeicokoaa
