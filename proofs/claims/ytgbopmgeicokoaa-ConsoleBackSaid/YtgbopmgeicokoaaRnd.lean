/-
  There and back, plain: what an image is read as.
-/
import Derived.Test.YtgbopmgeicokoaaPrs
import Derived.Test.YtgbopmgeicokoaaBur
namespace Go.Proofs.Ytgbopmgeicokoaa
open Go.RowKit

theorem cntP_cntF : ∀ (k i n m : Nat) (l : List Nat), i + k = 10 → m * 128 ^ i < 18446744073709551616 → (0 < i → 0 < m) → cntP i n (cntF k m ++ l) = some (n + m * 128 ^ i, l)
  | 0, i, n, m, l, hi, hm, h0 => by
    obtain rfl : i = 10 := by omega
    have := h0 (by omega)
    have h9 : (128 : Nat) ^ 10 = 1180591620717411303424 := by decide
    rw [h9] at hm
    omega
  | k + 1, i, n, m, l, hi, hm, h0 => by
    have h9 : (128 : Nat) ^ 9 = 9223372036854775808 := by decide
    have hb1 : i = 9 → m ≤ 1 := fun hh => by
      rw [hh, h9] at hm
      omega
    by_cases hlt : m < 128
    · rw [cntF_lt hlt]
      show cntP i n (m :: l) = _
      rw [cntP_last (by omega) hlt, Nat.mod_eq_of_lt hlt]
    · rw [cntF_ge hlt]
      show cntP i n ((m % 128 + 128) :: (cntF k (m / 128) ++ l)) = _
      have e1 : (m % 128 + 128) % 128 = m % 128 := by omega
      have e2 : m / 128 * 128 ^ (i + 1) + m % 128 * 128 ^ i = m * 128 ^ i := by
        rw [Nat.pow_succ, Nat.mul_comm (128 ^ i) 128, ← Nat.mul_assoc, ← Nat.add_mul]
        congr 1
        omega
      rw [cntP_more (by omega) (by omega), e1, cntP_cntF k (i + 1) _ (m / 128) l (by omega) (by omega) (by omega)]
      congr 2
      omega
theorem cntP_cnt {m : Nat} (h : m < 18446744073709551616) (l : List Nat) : cntP 0 0 (cnt m ++ l) = some (m, l) := by
  have := cntP_cntF 10 0 0 m l (by omega) (by omega) (by omega)
  rw [Nat.pow_zero, Nat.mul_one, Nat.zero_add] at this
  exact this
theorem cntS_cnt {m : Nat} (h : m < 18446744073709551616) (l : List Nat) (b : Bool) : cntS (cnt m ++ l, b) = (m, l, b) := by
  unfold cntS
  rw [cntP_cnt h]
theorem numG_cnt {m : Nat} (h : m < 9223372036854775808) (l : List Nat) (b : Bool) : numG cntS (cnt m ++ l, b) = (m, l, b) := by
  unfold numG
  rw [cntS_cnt (by omega), if_neg (by show ¬ 9223372036854775808 ≤ m; omega)]
theorem flat_cons (f : Int → Nat) (x : Int) (l : List Int) : flat f (x :: l) = cnt (f x) ++ flat f l := rfl
theorem numsG_flat {ns : List Int} (h : ∀ x ∈ ns, 0 ≤ x ∧ x ≤ 1024) (l : List Nat) : ∀ q, q ≤ ns.length → numsG cntS q (flat Int.toNat ns ++ l, false) = ((ns.take q).map Int.toNat, flat Int.toNat (ns.drop q) ++ l, false)
  | 0, _ => rfl
  | q + 1, hq => by
    have ih := numsG_flat h l q (by omega)
    obtain ⟨x, hx⟩ := at_lt (show q < ns.length by omega)
    have hb := h x (List.mem_of_getElem? hx)
    show ((numsG cntS q _).1 ++ [(numG cntS (numsG cntS q _).2).1], (numG cntS (numsG cntS q _).2).2) = _
    rw [ih]
    dsimp only
    rw [drop_cons hx, flat_cons, List.append_assoc, numG_cnt (by omega), take_snoc hx, List.map_append]
    rfl
theorem sgn_lt9 {z : Int} (h : -9223372036854775808 ≤ z ∧ z ≤ 9223372036854775807) : sgn z < 18446744073709551616 := by
  unfold sgn
  split <;> omega
theorem unsg_sgn {z : Int} (h : -9223372036854775808 ≤ z ∧ z ≤ 9223372036854775807) : unsg (sgn z) = z := by
  unfold sgn unsg
  split <;> split <;> omega
theorem mvG_flat {x : Mv} (h : MvOk x) (l : List Nat) : mvG cntS (flat sgn (mvI x) ++ l, false) = (x, l, false) := by
  have h1 := h x.thread (by simp)
  have h2 := h x.op (by simp)
  have h3 := h x.arg (by simp)
  have h4 := h x.data (by simp)
  have e : flat sgn (mvI x) ++ l = cnt (sgn x.thread) ++ (cnt (sgn x.op) ++ (cnt (sgn x.arg) ++ (cnt (sgn x.data) ++ l))) := by simp [flat]
  unfold mvG
  rw [e, cntS_cnt (sgn_lt9 h1)]
  dsimp only
  rw [cntS_cnt (sgn_lt9 h2)]
  dsimp only
  rw [cntS_cnt (sgn_lt9 h3)]
  dsimp only
  rw [cntS_cnt (sgn_lt9 h4), unsg_sgn h1, unsg_sgn h2, unsg_sgn h3, unsg_sgn h4]
theorem mvsI_cons (x : Mv) (l : List Mv) : mvsI (x :: l) = mvI x ++ mvsI l := rfl
theorem mvsG_flat {ms : List Mv} (h : ∀ x ∈ ms, MvOk x) (l : List Nat) : ∀ q, q ≤ ms.length → mvsG cntS q (flat sgn (mvsI ms) ++ l, false) = (ms.take q, flat sgn (mvsI (ms.drop q)) ++ l, false)
  | 0, _ => rfl
  | q + 1, hq => by
    have ih := mvsG_flat h l q (by omega)
    obtain ⟨x, hx⟩ := at_lt (show q < ms.length by omega)
    have hb := h x (List.mem_of_getElem? hx)
    show ((mvsG cntS q _).1 ++ [(mvG cntS (mvsG cntS q _).2).1], (mvG cntS (mvsG cntS q _).2).2) = _
    rw [ih]
    dsimp only
    rw [drop_cons hx, mvsI_cons, flat_app, List.append_assoc, mvG_flat hb, take_snoc hx]
/-- a session without what its kind does not look at -/
def fitS (s : Ses) : Ses := madeS s.kind.toNat ((numsL s).map Int.toNat)
theorem natI {z : Int} (h : 0 ≤ z) : ((z.toNat : Nat) : Int) = z := by omega
theorem fit_same {s : Ses} (h : cfgErr s = 0) : (fitS s).kind = s.kind ∧ numsL (fitS s) = numsL s ∧ cfgErr (fitS s) = 0 := by
  have hk := cfg_kind h
  have hn := (cfg_nums h).2
  obtain ⟨kd, hkd⟩ : ∃ kd, kd = s.kind := ⟨_, rfl⟩
  have h6 : kd = 1 ∨ kd = 2 ∨ kd = 3 ∨ kd = 4 ∨ kd = 5 ∨ kd = 6 := by omega
  obtain ⟨kind, ⟨c1, c2, c3, c4, c5, c6, c7⟩, a1, a2, a3, a4, a5, a6, a7, a8⟩ := s
  dsimp only at hkd hk
  subst hkd
  rcases h6 with rfl | rfl | rfl | rfl | rfl | rfl
  · have e : numsL ⟨1, ⟨c1, c2, c3, c4, c5, c6, c7⟩, a1, a2, a3, a4, a5, a6, a7, a8⟩ = [c1, c2, c3, c4, c5, c6, c7] := rfl
    rw [e] at hn
    have f : fitS ⟨1, ⟨c1, c2, c3, c4, c5, c6, c7⟩, a1, a2, a3, a4, a5, a6, a7, a8⟩ = ⟨1, ⟨c1, c2, c3, c4, c5, c6, c7⟩, 0, 0, 0, 0, 0, 0, 0, 0⟩ := by
      show Ses.mk 1 ⟨(c1.toNat : Nat), (c2.toNat : Nat), (c3.toNat : Nat), (c4.toNat : Nat), (c5.toNat : Nat), (c6.toNat : Nat), (c7.toNat : Nat)⟩ 0 0 0 0 0 0 0 0 = _
      rw [natI (hn c1 (by simp)).1, natI (hn c2 (by simp)).1, natI (hn c3 (by simp)).1, natI (hn c4 (by simp)).1, natI (hn c5 (by simp)).1, natI (hn c6 (by simp)).1, natI (hn c7 (by simp)).1]
    rw [f]
    exact ⟨rfl, rfl, h⟩
  · have e : numsL ⟨2, ⟨c1, c2, c3, c4, c5, c6, c7⟩, a1, a2, a3, a4, a5, a6, a7, a8⟩ = [c1, c2, c3, c4, c5, c6, c7] := rfl
    rw [e] at hn
    have f : fitS ⟨2, ⟨c1, c2, c3, c4, c5, c6, c7⟩, a1, a2, a3, a4, a5, a6, a7, a8⟩ = ⟨2, ⟨c1, c2, c3, c4, c5, c6, c7⟩, 0, 0, 0, 0, 0, 0, 0, 0⟩ := by
      show Ses.mk 2 ⟨(c1.toNat : Nat), (c2.toNat : Nat), (c3.toNat : Nat), (c4.toNat : Nat), (c5.toNat : Nat), (c6.toNat : Nat), (c7.toNat : Nat)⟩ 0 0 0 0 0 0 0 0 = _
      rw [natI (hn c1 (by simp)).1, natI (hn c2 (by simp)).1, natI (hn c3 (by simp)).1, natI (hn c4 (by simp)).1, natI (hn c5 (by simp)).1, natI (hn c6 (by simp)).1, natI (hn c7 (by simp)).1]
    rw [f]
    exact ⟨rfl, rfl, h⟩
  · have e : numsL ⟨3, ⟨c1, c2, c3, c4, c5, c6, c7⟩, a1, a2, a3, a4, a5, a6, a7, a8⟩ = [a1, a2] := rfl
    rw [e] at hn
    have f : fitS ⟨3, ⟨c1, c2, c3, c4, c5, c6, c7⟩, a1, a2, a3, a4, a5, a6, a7, a8⟩ = ⟨3, ⟨0, 0, 0, 0, 0, 0, 0⟩, a1, a2, 0, 0, 0, 0, 0, 0⟩ := by
      show Ses.mk 3 ⟨0, 0, 0, 0, 0, 0, 0⟩ (a1.toNat : Nat) (a2.toNat : Nat) 0 0 0 0 0 0 = _
      rw [natI (hn a1 (by simp)).1, natI (hn a2 (by simp)).1]
    rw [f]
    exact ⟨rfl, rfl, h⟩
  · have e : numsL ⟨4, ⟨c1, c2, c3, c4, c5, c6, c7⟩, a1, a2, a3, a4, a5, a6, a7, a8⟩ = [a3, a4] := rfl
    rw [e] at hn
    have f : fitS ⟨4, ⟨c1, c2, c3, c4, c5, c6, c7⟩, a1, a2, a3, a4, a5, a6, a7, a8⟩ = ⟨4, ⟨0, 0, 0, 0, 0, 0, 0⟩, 0, 0, a3, a4, 0, 0, 0, 0⟩ := by
      show Ses.mk 4 ⟨0, 0, 0, 0, 0, 0, 0⟩ 0 0 (a3.toNat : Nat) (a4.toNat : Nat) 0 0 0 0 = _
      rw [natI (hn a3 (by simp)).1, natI (hn a4 (by simp)).1]
    rw [f]
    exact ⟨rfl, rfl, h⟩
  · have e : numsL ⟨5, ⟨c1, c2, c3, c4, c5, c6, c7⟩, a1, a2, a3, a4, a5, a6, a7, a8⟩ = [a5, a6] := rfl
    rw [e] at hn
    have f : fitS ⟨5, ⟨c1, c2, c3, c4, c5, c6, c7⟩, a1, a2, a3, a4, a5, a6, a7, a8⟩ = ⟨5, ⟨0, 0, 0, 0, 0, 0, 0⟩, 0, 0, 0, 0, a5, a6, 0, 0⟩ := by
      show Ses.mk 5 ⟨0, 0, 0, 0, 0, 0, 0⟩ 0 0 0 0 (a5.toNat : Nat) (a6.toNat : Nat) 0 0 = _
      rw [natI (hn a5 (by simp)).1, natI (hn a6 (by simp)).1]
    rw [f]
    exact ⟨rfl, rfl, h⟩
  · have e : numsL ⟨6, ⟨c1, c2, c3, c4, c5, c6, c7⟩, a1, a2, a3, a4, a5, a6, a7, a8⟩ = [a7, a8] := rfl
    rw [e] at hn
    have f : fitS ⟨6, ⟨c1, c2, c3, c4, c5, c6, c7⟩, a1, a2, a3, a4, a5, a6, a7, a8⟩ = ⟨6, ⟨0, 0, 0, 0, 0, 0, 0⟩, 0, 0, 0, 0, 0, 0, a7, a8⟩ := by
      show Ses.mk 6 ⟨0, 0, 0, 0, 0, 0, 0⟩ 0 0 0 0 0 0 (a7.toNat : Nat) (a8.toNat : Nat) = _
      rw [natI (hn a7 (by simp)).1, natI (hn a8 (by simp)).1]
    rw [f]
    exact ⟨rfl, rfl, h⟩
theorem fit_err {s : Ses} {n : Nat} (h : sesErr s n = 0) : sesErr (fitS s) n = 0 := by
  obtain ⟨hc, hn⟩ := sesErr_ok h
  unfold sesErr
  rw [if_pos (fit_same hc).2.2, if_neg (by omega)]
theorem fit_fit {s : Ses} (h : cfgErr s = 0) : fitS (fitS s) = fitS s := by
  show madeS (fitS s).kind.toNat ((numsL (fitS s)).map Int.toNat) = fitS s
  rw [(fit_same h).1, (fit_same h).2.1]
  rfl
theorem nums_many {s : Ses} (h : cfgErr s = 0) : (numsL s).length = manyN s.kind.toNat := by
  have hk := cfg_kind h
  have h6 : s.kind = 1 ∨ s.kind = 2 ∨ s.kind = 3 ∨ s.kind = 4 ∨ s.kind = 5 ∨ s.kind = 6 := by omega
  unfold numsL
  rcases h6 with h | h | h | h | h | h <;> rw [h] <;> rfl
theorem img_len {s : Ses} {ms : List Mv} (h : sesErr s ms.length = 0) : (imgB s ms).length = (bodyB s ms).length + 4 ∧ 9 ≤ (imgB s ms).length ∧ (imgB s ms).length ≤ 4000000 := by
  obtain ⟨hc, hn6⟩ := sesErr_ok h
  have f5 : (leB (crcS (bodyB s ms)) 4).length = 4 := by simp [leB]
  have f0 : (imgB s ms).length = (bodyB s ms).length + 4 := by unfold imgB; rw [List.length_append, f5]
  refine ⟨f0, ?_⟩
  rw [f0]
  unfold bodyB
  have f1 := flat_len Int.toNat (numsL s)
  have f2 := cnt_len ms.length
  have f3 := flat_len sgn (mvsI ms)
  have f4 := (cfg_nums hc).1
  rw [mvsI_len] at f3
  rw [List.length_append, List.length_append, List.length_append, hdr_len]
  omega
theorem img_fits {s : Ses} {ms : List Mv} (h : sesErr s ms.length = 0) : Fits (imgB s ms) := by
  unfold Fits
  rw [(img_len h).1, Nat.add_sub_cancel]
  unfold imgB
  rw [List.drop_left', List.take_left'] <;> rfl
theorem head_img_ok {s : Ses} {ms : List Mv} (h : sesErr s ms.length = 0) : headL (imgB s ms) = .inr (s.kind.toNat, flat Int.toNat (numsL s) ++ (cnt ms.length ++ flat sgn (mvsI ms))) := by
  have hl := img_len h
  have hf := img_fits h
  have hk := cfg_kind (sesErr_ok h).1
  obtain ⟨r, hr⟩ : ∃ r, imgB s ms = 82 :: 67 :: 76 :: 1 :: s.kind.toNat :: r := ⟨_, rfl⟩
  have hm : manyN s.kind.toNat ≠ 0 := by
    have h6 : s.kind = 1 ∨ s.kind = 2 ∨ s.kind = 3 ∨ s.kind = 4 ∨ s.kind = 5 ∨ s.kind = 6 := by omega
    rcases h6 with h | h | h | h | h | h <;> rw [h] <;> decide
  unfold headL
  rw [if_neg (by omega), if_neg (by rintro (hh | hh); omega; exact hh (by rw [hr]; rfl)), if_neg (fun hh => hh hf), if_neg (by rw [hr]; exact hm)]
  have e1 : (imgB s ms)[4]?.getD 0 = s.kind.toNat := by rw [hr]; rfl
  have e2 : List.drop 5 (List.take ((imgB s ms).length - 4) (imgB s ms)) = flat Int.toNat (numsL s) ++ (cnt ms.length ++ flat sgn (mvsI ms)) := by
    rw [hl.1, Nat.add_sub_cancel]
    unfold imgB
    rw [List.take_left' rfl]
    unfold bodyB
    rw [List.append_assoc, List.append_assoc]
    rfl
  rw [e1, e2]
theorem loadP_img {s : Ses} {ms : List Mv} (h : sesErr s ms.length = 0) (hok : ∀ x ∈ ms, MvOk x) : loadP (imgB s ms) = (0, fitS s, ms) := by
  obtain ⟨hc, hn⟩ := sesErr_ok h
  have h1 := numsG_flat (cfg_nums hc).2 (cnt ms.length ++ flat sgn (mvsI ms)) (numsL s).length (Nat.le_refl _)
  rw [List.take_of_length_le (Nat.le_refl _), List.drop_of_length_le (Nat.le_refl _)] at h1
  have h2 := mvsG_flat hok [] ms.length (Nat.le_refl _)
  rw [List.take_of_length_le (Nat.le_refl _), List.drop_of_length_le (Nat.le_refl _), List.append_nil] at h2
  have hlen : ms.length * 4 ≤ (flat sgn (mvsI ms)).length := by
    have : ∀ l : List Int, l.length ≤ (flat sgn l).length := fun l => by
      induction l with
      | nil => exact Nat.le_refl _
      | cons x l ih =>
        rw [flat_cons, List.length_append, List.length_cons]
        have : 1 ≤ (cnt (sgn x)).length := by
          unfold cnt
          by_cases hx : sgn x < 128
          · rw [cntF_lt hx]; exact Nat.le_refl _
          · rw [cntF_ge hx]; simp
        omega
    have h9 := this (mvsI ms)
    rw [mvsI_len] at h9
    omega
  unfold loadP
  rw [head_img_ok h]
  dsimp only
  rw [← nums_many hc, h1]
  dsimp only
  rw [show flat Int.toNat ([] : List Int) = [] from rfl, List.nil_append, numG_cnt (by omega)]
  dsimp only
  rw [if_neg (by
    rintro (hh | hh)
    · cases hh
    · omega), h2]
  unfold tailL
  rw [if_neg (by
    rintro (hh | hh)
    · cases hh
    · exact hh rfl)]
  have he : sesErr (madeS s.kind.toNat ((numsL s).map Int.toNat)) ms.length = 0 := fit_err h
  rw [if_neg (fun hh => hh he)]
  rfl
/-- what does not fit is not loaded -/
theorem load_unfit {l : List Nat} (h9 : 9 ≤ l.length) (h : l.length ≤ 4194304) (hf : ¬ Fits l) : loadP l = noLd 281 ∨ loadP l = noLd 282 := by
  unfold loadP
  by_cases h1 : l.length < 9 ∨ l.take 4 ≠ [82, 67, 76, 1]
  · left
    unfold headL
    rw [if_neg (by omega), if_pos h1]
  · right
    unfold headL
    rw [if_neg (by omega), if_neg h1, if_pos (show l.drop (l.length - 4) ≠ leB (crcS (l.take (l.length - 4))) 4 from hf)]
end Go.Proofs.Ytgbopmgeicokoaa
