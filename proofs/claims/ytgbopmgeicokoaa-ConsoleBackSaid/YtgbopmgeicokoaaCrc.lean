/-
  The checksum of bytes: plain, the program's and the reference's.
-/
import Derived.Test.YtgbopmgeicokoaaProg
import Derived.Test.YtgbopmgeicokoaaMem
import Derived.Deep.LoopGhost
import Derived.Deep.Light
import Derived.Laws.BitsAllLaws
import Derived.Lib.Hide
namespace Go.Proofs.Ytgbopmgeicokoaa
open Go.RowKit

abbrev u8s (l : List Nat) : List Value := l.map fun n : Nat => Value.int .u8 n
theorem u32_not (s : Nat) (h : s < 4294967296) : bits .xor .u32 IntKind.u32.max (s : Int) = 4294967295 - (s : Int) := by
  show IntKind.u32.wrap ((BitVec.ofInt 32 IntKind.u32.max ^^^ BitVec.ofInt 32 (s : Int)).toNat : Int) = _
  rw [show BitVec.ofInt 32 IntKind.u32.max = BitVec.allOnes 32 from by decide, BitVec.allOnes_xor, BitVec.toNat_not, ofInt_u32 s h, IntKind.wrap_u32']
  omega
/-- one bit's step -/
def crc1 (s : Nat) : Nat := if s % 2 = 1 then (s / 2) ^^^ 3988292384 else s / 2
def crcN : Nat → Nat → Nat
  | 0, s => s
  | k + 1, s => crcN k (crc1 s)
def crcB (s x : Nat) : Nat := crcN 8 (s ^^^ x)
def crcL (s : Nat) (l : List Nat) : Nat := l.foldl crcB s
/-- the checksum -/
def crcS (l : List Nat) : Nat := 4294967295 - crcL 4294967295 l
theorem crc1_lt {s : Nat} (h : s < 4294967296) : crc1 s < 4294967296 := by
  unfold crc1
  split
  · exact Nat.xor_lt_two_pow (n := 32) (by omega) (by omega)
  · omega
theorem crcN_lt : ∀ (k : Nat) {s : Nat}, s < 4294967296 → crcN k s < 4294967296
  | 0, _, h => h
  | k + 1, _, h => crcN_lt k (crc1_lt h)
theorem crcB_lt {s x : Nat} (h : s < 4294967296) (hx : x < 256) : crcB s x < 4294967296 := crcN_lt 8 (Nat.xor_lt_two_pow (n := 32) (by omega) (by omega))
theorem crcL_lt {l : List Nat} : ∀ {s : Nat}, s < 4294967296 → (∀ x ∈ l, x < 256) → crcL s l < 4294967296 := by
  induction l with
  | nil => exact fun h _ => h
  | cons x l ih => exact fun h hl => ih (crcB_lt h (hl x (by simp))) (fun y hy => hl y (by simp [hy]))
theorem crcS_lt (l : List Nat) : crcS l < 4294967296 := by unfold crcS; omega
theorem u8s_get {l : List Nat} {j x : Nat} (h : l[j]? = some x) : (u8s l)[j]? = some (.int .u8 x) := by simp [u8s, h]
theorem crcL_take {l : List Nat} {j x s : Nat} (h : l[j]? = some x) : crcL s (l.take (j + 1)) = crcB (crcL s (l.take j)) x := by
  rw [take_snoc h]
  unfold crcL
  rw [List.foldl_append]
  rfl

set_option maxRecDepth 100000 in
set_option maxHeartbeats 4000000 in
theorem psum_any (A : Option Addr) (n k : Nat) (l : List Nat) (w : World) (B : Nat) (h : Sl w B 1 A n (u8s l)) (hn : n ≤ k ∧ k ≤ maxLen) (hl : ∀ x ∈ l, x < 256) :
    Calls Try.prog 34 #[.slice A n k] w fun e w' => e = .returned (.int .u32 (crcS l)) ∧ w' = w := by
  have hlen : l.length = n := by have := h.1; simp [u8s] at this; exact this
  have hk1 := hn.1
  have hk2 := hn.2
  unfold maxLen at hk2
  have HS := Lib.hid h
  have HL := Lib.hid hl
  have HLen := Lib.hid hlen
  clear h hn hl hlen
  go_enter Try.func34, Try.ntmps34
  go_wp2_with fail
  go_loopg [3, 9] n (fun gk v0 i wr => ∃ j s : Nat, j + gk = n ∧ i = .int .i64 j ∧ v0 = .int .u32 s ∧ wr = w ∧ s < 4294967296 ∧ Hid (s = crcL 4294967295 (l.take j)))
  case atStart => exact ⟨0, 4294967295, by omega, rfl, rfl, rfl, by omega, rfl⟩
  case round =>
    obtain ⟨j, s, hj, rfl, rfl, rfl, hs, HC⟩ := hrel
    by_cases hlt : j < n
    · obtain ⟨x, hx⟩ := at_lt (by rw [HLen.out]; exact hlt : j < l.length)
      obtain ⟨b, o, rfl, hb, hc⟩ := HS.out.2 (by omega)
      have c0 := hc j _ (u8s_get hx)
      have hx8 := HL.out x (List.mem_of_getElem? hx)
      have e1 : (j : Int) < n := by omega
      have e0 : (0 : Int) ≤ j := by omega
      have HX := Lib.hid hx
      have b1 := u32_xor_nat s x (by omega) (by omega)
      clear hx hc
      obtain ⟨wo, rfl⟩ : ∃ wo : World, wo = wr := ⟨_, rfl⟩
      obtain ⟨go, rfl⟩ : ∃ go : Nat, go = gk := ⟨_, rfl⟩
      have hsx : s ^^^ x < 4294967296 := Nat.xor_lt_two_pow (n := 32) (by omega) (by omega)
      go_wp2_with fail
      go_loopg [3, 17] 8 (fun gk v0 i w' => ∃ q s' : Nat, q + gk = 8 ∧ i = .int .i64 q ∧ v0 = .int .u32 s' ∧ w' = wo ∧ s' < 4294967296 ∧ Hid (crcN gk s' = crcB s x))
      case atStart => exact ⟨0, s ^^^ x, by omega, rfl, rfl, rfl, hsx, rfl⟩
      case round =>
        obtain ⟨q, s', hq, rfl, rfl, rfl, hs', HN⟩ := hrel
        by_cases hq8 : q < 8
        · have f1 : (q : Int) < 8 := by omega
          by_cases hp : s' % 2 = 1
          · have b2 : bits .and .u32 (s' : Int) 1 = 1 := by
              have := u32_and_nat s' 1 (by omega) (by omega)
              rw [Nat.and_one_is_mod, hp] at this
              exact this
            have b3 : bits .xor .u32 ((s' : Int) / 2) 3988292384 = ((s' / 2 ^^^ 3988292384 : Nat) : Int) := u32_xor_nat (s' / 2) 3988292384 (by omega) (by omega)
            have HC1 := Lib.hid (show crc1 s' = s' / 2 ^^^ 3988292384 by unfold crc1; rw [if_pos hp])
            clear hp
            go_wp2_with fail
            go_roundg (gk - 1)
            case measure => omega
            case rel =>
              refine ⟨q + 1, crc1 s', by omega, by go_num, by rw [HC1.out], rfl, crc1_lt hs', ?_⟩
              have h9 := HN.out
              rwa [show gk = (gk - 1) + 1 by omega] at h9
          · have b2 : bits .and .u32 (s' : Int) 1 = 0 := by
              have := u32_and_nat s' 1 (by omega) (by omega)
              rw [Nat.and_one_is_mod, show s' % 2 = 0 by omega] at this
              exact this
            have HC1 := Lib.hid (show crc1 s' = s' / 2 by unfold crc1; rw [if_neg hp])
            clear hp
            go_wp2_with fail
            go_roundg (gk - 1)
            case measure => omega
            case rel =>
              refine ⟨q + 1, crc1 s', by omega, by go_num, by rw [HC1.out]; rfl, rfl, crc1_lt hs', ?_⟩
              have h9 := HN.out
              rwa [show gk = (gk - 1) + 1 by omega] at h9
        · obtain rfl : q = 8 := by omega
          obtain rfl : gk = 0 := by omega
          have HE := Lib.hid (show s' = crcB s x from HN.out)
          go_wp2_with fail
          go_roundg (go - 1)
          case measure => omega
          case rel =>
            refine ⟨j + 1, s', by omega, by go_num, rfl, rfl, hs', ?_⟩
            rw [crcL_take HX.out, ← HC.out]
            exact HE.out
    · obtain rfl : j = n := by omega
      have HE := Lib.hid (show ((crcS l : Nat) : Int) = 4294967295 - (s : Int) by
        have h9 := HC.out
        rw [List.take_of_length_le (by rw [HLen.out]; exact Nat.le_refl _)] at h9
        unfold crcS
        rw [← h9]
        omega)
      have b4 := u32_not s (by omega)
      go_wp2_with fail
      go_ret
      exact ⟨by rw [HE.out]; rfl, rfl⟩
set_option maxRecDepth 100000 in
set_option maxHeartbeats 4000000 in
theorem rsum_any (A : Option Addr) (n k : Nat) (l : List Nat) (w : World) (B : Nat) (h : Sl w B 1 A n (u8s l)) (hn : n ≤ k ∧ k ≤ maxLen) (hl : ∀ x ∈ l, x < 256) :
    Calls Try.prog 35 #[.slice A n k] w fun e w' => e = .returned (.int .u32 (crcS l)) ∧ w' = w := by
  have hlen : l.length = n := by have := h.1; simp [u8s] at this; exact this
  have hk1 := hn.1
  have hk2 := hn.2
  unfold maxLen at hk2
  have HS := Lib.hid h
  have HL := Lib.hid hl
  have HLen := Lib.hid hlen
  clear h hn hl hlen
  go_enter Try.func35, Try.ntmps35
  go_wp2_with fail
  go_loopg [3, 9] n (fun gk v0 i wr => ∃ j s : Nat, j + gk = n ∧ i = .int .i64 j ∧ v0 = .int .u32 s ∧ wr = w ∧ s < 4294967296 ∧ Hid (s = crcL 4294967295 (l.take j)))
  case atStart => exact ⟨0, 4294967295, by omega, rfl, rfl, rfl, by omega, rfl⟩
  case round =>
    obtain ⟨j, s, hj, rfl, rfl, rfl, hs, HC⟩ := hrel
    by_cases hlt : j < n
    · obtain ⟨x, hx⟩ := at_lt (by rw [HLen.out]; exact hlt : j < l.length)
      obtain ⟨b, o, rfl, hb, hc⟩ := HS.out.2 (by omega)
      have c0 := hc j _ (u8s_get hx)
      have hx8 := HL.out x (List.mem_of_getElem? hx)
      have e1 : (j : Int) < n := by omega
      have e0 : (0 : Int) ≤ j := by omega
      have HX := Lib.hid hx
      have b1 := u32_xor_nat s x (by omega) (by omega)
      clear hx hc
      obtain ⟨wo, rfl⟩ : ∃ wo : World, wo = wr := ⟨_, rfl⟩
      obtain ⟨go, rfl⟩ : ∃ go : Nat, go = gk := ⟨_, rfl⟩
      have hsx : s ^^^ x < 4294967296 := Nat.xor_lt_two_pow (n := 32) (by omega) (by omega)
      go_wp2_with fail
      go_loopg [3, 6] 8 (fun gk v0 i w' => ∃ q s' : Nat, q + gk = 8 ∧ i = .int .i64 q ∧ v0 = .int .u32 s' ∧ w' = wo ∧ s' < 4294967296 ∧ Hid (crcN gk s' = crcB s x))
      case atStart => exact ⟨0, s ^^^ x, by omega, rfl, rfl, rfl, hsx, rfl⟩
      case round =>
        obtain ⟨q, s', hq, rfl, rfl, rfl, hs', HN⟩ := hrel
        by_cases hq8 : q < 8
        · have f1 : (q : Int) < 8 := by omega
          by_cases hp : s' % 2 = 1
          · have b2 : (s' : Int) % 2 = 1 := by omega
            have b5 : (s' : Int).tmod 2 = 1 := by rw [Int.tmod_eq_emod_of_nonneg (by omega)]; omega
            have b3 : bits .xor .u32 ((s' : Int) / 2) 3988292384 = ((s' / 2 ^^^ 3988292384 : Nat) : Int) := u32_xor_nat (s' / 2) 3988292384 (by omega) (by omega)
            have HC1 := Lib.hid (show crc1 s' = s' / 2 ^^^ 3988292384 by unfold crc1; rw [if_pos hp])
            clear hp
            go_wp2_with fail
            go_roundg (gk - 1)
            case measure => omega
            case rel =>
              refine ⟨q + 1, crc1 s', by omega, by go_num, by rw [HC1.out], rfl, crc1_lt hs', ?_⟩
              have h9 := HN.out
              rwa [show gk = (gk - 1) + 1 by omega] at h9
          · have b2 : (s' : Int) % 2 = 0 := by omega
            have b5 : (s' : Int).tmod 2 = 0 := by rw [Int.tmod_eq_emod_of_nonneg (by omega)]; omega
            have HC1 := Lib.hid (show crc1 s' = s' / 2 by unfold crc1; rw [if_neg hp])
            clear hp
            go_wp2_with fail
            go_roundg (gk - 1)
            case measure => omega
            case rel =>
              refine ⟨q + 1, crc1 s', by omega, by go_num, by rw [HC1.out]; rfl, rfl, crc1_lt hs', ?_⟩
              have h9 := HN.out
              rwa [show gk = (gk - 1) + 1 by omega] at h9
        · obtain rfl : q = 8 := by omega
          obtain rfl : gk = 0 := by omega
          have HE := Lib.hid (show s' = crcB s x from HN.out)
          go_wp2_with fail
          go_roundg (go - 1)
          case measure => omega
          case rel =>
            refine ⟨j + 1, s', by omega, by go_num, rfl, rfl, hs', ?_⟩
            rw [crcL_take HX.out, ← HC.out]
            exact HE.out
    · obtain rfl : j = n := by omega
      have HE := Lib.hid (show ((crcS l : Nat) : Int) = 4294967295 - (s : Int) by
        have h9 := HC.out
        rw [List.take_of_length_le (by rw [HLen.out]; exact Nat.le_refl _)] at h9
        unfold crcS
        rw [← h9]
        omega)
      go_wp2_with fail
      go_ret
      exact ⟨by rw [HE.out]; rfl, rfl⟩
end Go.Proofs.Ytgbopmgeicokoaa
