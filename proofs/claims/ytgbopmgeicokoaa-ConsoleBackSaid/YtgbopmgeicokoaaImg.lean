/-
  A session's image, plain.
-/
import Derived.Test.YtgbopmgeicokoaaFlds
import Derived.Test.YtgbopmgeicokoaaMvs
namespace Go.Proofs.Ytgbopmgeicokoaa
open Go.RowKit

def flat (f : Int → Nat) (l : List Int) : List Nat := l.flatMap fun x => cnt (f x)
theorem flat_len (f : Int → Nat) (l : List Int) : (flat f l).length ≤ 11 * l.length := by
  induction l with
  | nil => exact Nat.le_refl _
  | cons x l ih =>
    have := cnt_len (f x)
    show (List.length (cnt (f x) ++ flat f l)) ≤ _
    rw [List.length_append, List.length_cons]
    omega
theorem flat_byte (f : Int → Nat) (l : List Int) : ∀ x ∈ flat f l, x < 256 := by
  intro x hx
  obtain ⟨y, _, hy⟩ := List.mem_flatMap.1 hx
  exact cnt_byte _ x hy
theorem flat_app (f : Int → Nat) (l l' : List Int) : flat f (l ++ l') = flat f l ++ flat f l' := by unfold flat; rw [List.flatMap_append]
theorem flat_snoc {f : Int → Nat} {l : List Int} {q : Nat} {x : Int} (h : l[q]? = some x) : flat f (l.take (q + 1)) = flat f (l.take q) ++ cnt (f x) := by
  rw [take_snoc h, flat_app]
  unfold flat
  simp
/-- a move's numbers -/
abbrev mvI (x : Mv) : List Int := [x.thread, x.op, x.arg, x.data]
def mvsI (l : List Mv) : List Int := l.flatMap mvI
theorem mvsI_len (l : List Mv) : (mvsI l).length = 4 * l.length := by
  induction l with
  | nil => rfl
  | cons x l ih =>
    show (List.length (mvI x ++ mvsI l)) = _
    rw [List.length_append, ih]
    show 4 + 4 * l.length = 4 * (l.length + 1)
    omega
theorem mvsI_snoc {l : List Mv} {j : Nat} {x : Mv} (h : l[j]? = some x) : mvsI (l.take (j + 1)) = mvsI (l.take j) ++ mvI x := by
  rw [take_snoc h]
  unfold mvsI
  rw [List.flatMap_append]
  simp
def hdrB (s : Ses) : List Nat := [82, 67, 76, 1, s.kind.toNat]
/-- the image without its checksum -/
def bodyB (s : Ses) (ms : List Mv) : List Nat := hdrB s ++ flat Int.toNat (numsL s) ++ cnt ms.length ++ flat sgn (mvsI ms)
/-- the first bytes of a number, the least first -/
def leB (c : Nat) (k : Nat) : List Nat := (List.range k).map fun i => c / 256 ^ i % 256
theorem leB_next (c k : Nat) : leB c (k + 1) = leB c k ++ [c / 256 ^ k % 256] := by unfold leB; rw [List.range_succ, List.map_append]; rfl
theorem leB_byte (c k : Nat) : ∀ x ∈ leB c k, x < 256 := by
  intro x hx
  obtain ⟨i, _, rfl⟩ := List.mem_map.1 hx
  omega
def imgB (s : Ses) (ms : List Mv) : List Nat := bodyB s ms ++ leB (crcS (bodyB s ms)) 4

theorem cfg_kind {s : Ses} (h : cfgErr s = 0) : 1 ≤ s.kind ∧ s.kind ≤ 6 := by
  unfold cfgErr at h
  split at h
  · omega
  · split at h
    · omega
    · split at h
      · omega
      · split at h
        · omega
        · split at h
          · omega
          · cases h
theorem range_iff {t x lo hi : Int} : rangeB t x lo hi = true ↔ (1 ≤ t ∧ t ≤ 16 ∧ lo ≤ x ∧ x ≤ hi) := by
  unfold rangeB
  simp
theorem cfg_nums {s : Ses} (h : cfgErr s = 0) : (numsL s).length ≤ 7 ∧ ∀ x ∈ numsL s, 0 ≤ x ∧ x ≤ 1024 := by
  unfold cfgErr at h
  unfold numsL
  by_cases k3 : s.kind = 3
  · rw [if_neg (by omega), if_pos k3] at h
    have hr : rangeB s.rt s.rc 2 64 = true := by
      cases hb : rangeB s.rt s.rc 2 64 with
      | true => rfl
      | false => rw [hb] at h; cases h
    have h9 := range_iff.1 hr
    rw [if_pos k3]
    refine ⟨by simp, fun x hx => ?_⟩
    simp at hx
    rcases hx with rfl | rfl <;> omega
  rw [if_neg k3] at h ⊢
  by_cases k4 : s.kind = 4
  · rw [if_neg (by omega), if_pos k4] at h
    have hr : rangeB s.dt s.dr 1 256 = true := by
      cases hb : rangeB s.dt s.dr 1 256 with
      | true => rfl
      | false => rw [hb] at h; cases h
    have h9 := range_iff.1 hr
    rw [if_pos k4]
    refine ⟨by simp, fun x hx => ?_⟩
    simp at hx
    rcases hx with rfl | rfl <;> omega
  rw [if_neg k4] at h ⊢
  by_cases k5 : s.kind = 5
  · rw [if_neg (by omega), if_pos k5] at h
    have hr : rangeB s.lt s.lk 1 7 = true := by
      cases hb : rangeB s.lt s.lk 1 7 with
      | true => rfl
      | false => rw [hb] at h; cases h
    have h9 := range_iff.1 hr
    rw [if_pos k5]
    refine ⟨by simp, fun x hx => ?_⟩
    simp at hx
    rcases hx with rfl | rfl <;> omega
  rw [if_neg k5] at h ⊢
  by_cases k6 : s.kind = 6
  · rw [if_neg (by omega), if_pos k6] at h
    have hr : rangeB s.st s.sv 1 64 = true := by
      cases hb : rangeB s.st s.sv 1 64 with
      | true => rfl
      | false => rw [hb] at h; cases h
    have h9 := range_iff.1 hr
    rw [if_pos k6]
    refine ⟨by simp, fun x hx => ?_⟩
    simp at hx
    rcases hx with rfl | rfl <;> omega
  rw [if_neg k6] at h ⊢
  by_cases k1 : s.kind = 1 ∨ s.kind = 2
  · rw [if_pos k1] at h
    have hr : okC s.cfg = true := by
      cases hb : okC s.cfg with
      | true => rfl
      | false => rw [hb] at h; cases h
    obtain ⟨a1, a2, a3, a4, a5, a6, a7, a8, a9, b1, b2, b3, b4, b5⟩ := (okC_iff s.cfg).1 hr
    refine ⟨by simp, fun x hx => ?_⟩
    simp at hx
    rcases hx with rfl | rfl | rfl | rfl | rfl | rfl | rfl <;> omega
  · rw [if_neg k1] at h
    cases h
/-- where the numbers lie in the session -/
theorem offs_get (s : Ses) (m : Value) {q : Nat} {x : Int} (h : (numsL s)[q]? = some x) : ∃ o, (offsL s)[q]? = some o ∧ (sesL s m)[o]? = some (.int .i64 x) := by
  unfold numsL at h
  unfold offsL
  by_cases k3 : s.kind = 3
  · rw [if_pos k3] at h ⊢
    match q, h with
    | 0, h => exact ⟨8, rfl, by injection h with h; rw [← h]; rfl⟩
    | 1, h => exact ⟨9, rfl, by injection h with h; rw [← h]; rfl⟩
    | q + 2, h => cases h
  rw [if_neg k3] at h ⊢
  by_cases k4 : s.kind = 4
  · rw [if_pos k4] at h ⊢
    match q, h with
    | 0, h => exact ⟨10, rfl, by injection h with h; rw [← h]; rfl⟩
    | 1, h => exact ⟨11, rfl, by injection h with h; rw [← h]; rfl⟩
    | q + 2, h => cases h
  rw [if_neg k4] at h ⊢
  by_cases k5 : s.kind = 5
  · rw [if_pos k5] at h ⊢
    match q, h with
    | 0, h => exact ⟨12, rfl, by injection h with h; rw [← h]; rfl⟩
    | 1, h => exact ⟨13, rfl, by injection h with h; rw [← h]; rfl⟩
    | q + 2, h => cases h
  rw [if_neg k5] at h ⊢
  by_cases k6 : s.kind = 6
  · rw [if_pos k6] at h ⊢
    match q, h with
    | 0, h => exact ⟨14, rfl, by injection h with h; rw [← h]; rfl⟩
    | 1, h => exact ⟨15, rfl, by injection h with h; rw [← h]; rfl⟩
    | q + 2, h => cases h
  rw [if_neg k6] at h ⊢
  match q, h with
  | 0, h => exact ⟨1, rfl, by injection h with h; rw [← h]; rfl⟩
  | 1, h => exact ⟨2, rfl, by injection h with h; rw [← h]; rfl⟩
  | 2, h => exact ⟨3, rfl, by injection h with h; rw [← h]; rfl⟩
  | 3, h => exact ⟨4, rfl, by injection h with h; rw [← h]; rfl⟩
  | 4, h => exact ⟨5, rfl, by injection h with h; rw [← h]; rfl⟩
  | 5, h => exact ⟨6, rfl, by injection h with h; rw [← h]; rfl⟩
  | 6, h => exact ⟨7, rfl, by injection h with h; rw [← h]; rfl⟩
  | q + 7, h => cases h
theorem offs_len (s : Ses) : (offsL s).length = (numsL s).length := by
  unfold offsL numsL
  repeat' split
  all_goals rfl
theorem hdr_byte {s : Ses} (h : s.kind ≤ 6) : ∀ x ∈ hdrB s, x < 256 := by
  intro x hx
  simp [hdrB] at hx
  omega
theorem body_byte {s : Ses} {ms : List Mv} (h : s.kind ≤ 6) : ∀ x ∈ bodyB s ms, x < 256 := by
  intro x hx
  unfold bodyB at hx
  rcases List.mem_append.1 hx with hx | hx
  · rcases List.mem_append.1 hx with hx | hx
    · rcases List.mem_append.1 hx with hx | hx
      · exact hdr_byte h x hx
      · exact flat_byte _ _ x hx
    · exact cnt_byte _ x hx
  · exact flat_byte _ _ x hx
theorem hdr_len (s : Ses) : (hdrB s).length = 5 := rfl
/-- a move may be: its numbers are ints -/
def MvOk (x : Mv) : Prop := ∀ z ∈ mvI x, -9223372036854775808 ≤ z ∧ z ≤ 9223372036854775807
end Go.Proofs.Ytgbopmgeicokoaa
