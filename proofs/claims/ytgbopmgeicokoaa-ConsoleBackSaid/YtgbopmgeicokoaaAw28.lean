/-
  reclaimlaw28.bytes, where both sides are the same; reclaimlaw28.awake.
-/
import Derived.Test.YtgbopmgeicokoaaRSav
import Derived.Test.YtgbopmgeicokoaaCop
import Derived.Lib.SlBytesConst
namespace Go.Proofs.Ytgbopmgeicokoaa
open Go.RowKit

set_option maxRecDepth 100000 in
set_option maxHeartbeats 4000000 in
theorem bytes_same (A A2 : Option Addr) (n k k2 : Nat) (l : List Nat) (w : World) (hn : l.length = n) (h : Sl w w.heap.size 1 A n (u8s l)) (h2 : Sl w w.heap.size 1 A2 n (u8s l)) (hn3 : n ≤ 4611686018427387904) :
    Calls Try.prog 38 #[.slice A n k, .slice A2 n k2] w (BoolR true w) := by
  have H1 := Lib.hid h
  have H2 := Lib.hid h2
  have HLen := Lib.hid hn
  have b1 : ((n : Int) != (n : Int)) = false := by simp
  clear h h2 hn
  go_enter Try.func38, Try.ntmps38
  go_wp2_with fail
  go_loopg [5] n (fun gk i wr => ∃ j : Nat, j + gk = n ∧ i = .int .i64 j ∧ Below w.heap.size w wr)
  case atStart => exact ⟨0, by omega, rfl, Below.refl _ _⟩
  case round =>
    obtain ⟨j, hj, rfl, hbr⟩ := hrel
    by_cases hlt : j < n
    · obtain ⟨x, hx⟩ := at_lt (by rw [HLen.out]; exact hlt : j < l.length)
      obtain ⟨b, o, rfl, hb, hc⟩ := (H1.out.below hbr).2 (by omega)
      obtain ⟨b2, o2, rfl, hb2, hc2⟩ := (H2.out.below hbr).2 (by omega)
      have c1 := hc j _ (u8s_get hx)
      have c2 := hc2 j _ (u8s_get hx)
      have e1 : (j : Int) < n := by omega
      have e0 : (0 : Int) ≤ j := by omega
      have b2 : ((x : Int) != (x : Int)) = false := by simp
      clear hc hc2 hx
      go_upto_region 6 with fail
      go_quiet (fail)
      go_wp2_with fail
      go_roundg (gk - 1)
      case measure => omega
      case rel => exact ⟨j + 1, by omega, by go_num, hbr.drewN _⟩
    · obtain rfl : j = n := by omega
      go_wp2_with fail
      go_ret
      exact ⟨rfl, hbr⟩

def want9 : List Nat := [82, 67, 76, 1, 3, 2, 3, 2, 0, 200, 1, 1, 0, 2, 0, 0, 0]
def digits9 : List Nat := [49, 50, 51, 52, 53, 54, 55, 56, 57]
theorem ses9_ok : sesErr ses9 2 = 0 := by decide
theorem body9 : bodyB ses9 mvs9 = want9 := by decide
theorem img9_len : (imgB ses9 mvs9).length = 21 := by unfold imgB; rw [body9, List.length_append]; rfl
theorem crc9 : crcS digits9 = 3421780262 := by decide +kernel
theorem mvs9_ok : ∀ x ∈ mvs9, MvOk x := by
  intro x hx z hz
  simp [mvs9] at hx
  rcases hx with rfl | rfl <;> simp at hz <;> omega
theorem img9_get {j x : Nat} (h : want9[j]? = some x) : (imgB ses9 mvs9)[j]? = some x := by
  unfold imgB
  rw [body9, List.getElem?_append_left (List.getElem?_eq_some_iff.1 h).1]
  exact h

set_option maxRecDepth 100000 in
set_option maxHeartbeats 4000000 in
theorem awake28_any (w : World) : Calls Try.prog 32 #[] w (BoolR true w) := by
  go_enter Try.func32, Try.ntmps32
  go_wp2_with fail
  refine (sample_any _).mono ?_
  rintro e w1 ⟨A1, rfl, hm1, hb1⟩
  go_wp2_with fail
  refine (psave_any ses9 A1 2 2 mvs9 _ hm1 mvs9_ok).mono ?_
  rintro e w2 ⟨hb2, hh⟩
  rcases hh with ⟨_, A2, k2, rfl, hB2⟩ | ⟨hne, _⟩
  case inr => exact absurd ses9_ok hne
  rw [img9_len]
  have HS2 := Lib.hid (Sl.of_own hB2)
  have HW2 := Lib.hid (hb1.trans (hb2.mono hb1.size))
  clear hm1 hb1 hB2 hb2
  go_upto_region 3 with fail
  have HB3 : Hid (Blk (w2.alloc (.cells #[.int .u8 82, .int .u8 67, .int .u8 76, .int .u8 1, .int .u8 3, .int .u8 2, .int .u8 3, .int .u8 2, .int .u8 0, .int .u8 200, .int .u8 1, .int .u8 1, .int .u8 0, .int .u8 2, .int .u8 0, .int .u8 0, .int .u8 0] 5)) w2.heap.size 5 (u8s want9)) := Blk.new _ _ _
  have HS3 : Hid (Sl (w2.alloc (.cells #[.int .u8 82, .int .u8 67, .int .u8 76, .int .u8 1, .int .u8 3, .int .u8 2, .int .u8 3, .int .u8 2, .int .u8 0, .int .u8 200, .int .u8 1, .int .u8 1, .int .u8 0, .int .u8 2, .int .u8 0, .int .u8 0, .int .u8 0] 5)) w2.heap.size 1 A2 (imgB ses9 mvs9).length (u8s (imgB ses9 mvs9))) := HS2.out.below ((Below.refl _ _).alloc (Nat.le_refl _) _)
  have HW3 : Hid (Below w.heap.size w (w2.alloc (.cells #[.int .u8 82, .int .u8 67, .int .u8 76, .int .u8 1, .int .u8 3, .int .u8 2, .int .u8 3, .int .u8 2, .int .u8 0, .int .u8 200, .int .u8 1, .int .u8 1, .int .u8 0, .int .u8 2, .int .u8 0, .int .u8 0, .int .u8 0] 5))) := HW2.out.alloc HW2.out.size _
  generalize w2.alloc (.cells #[.int .u8 82, .int .u8 67, .int .u8 76, .int .u8 1, .int .u8 3, .int .u8 2, .int .u8 3, .int .u8 2, .int .u8 0, .int .u8 200, .int .u8 1, .int .u8 1, .int .u8 0, .int .u8 2, .int .u8 0, .int .u8 0, .int .u8 0] 5) = w3 at HB3 HS3 HW3 ⊢
  have hlt3 := HB3.out.lt
  have hcv := Lib.run_convert_bytes_const (P := Try.prog) w3 77 5 #[.int .u8 49, .int .u8 50, .int .u8 51, .int .u8 52, .int .u8 53, .int .u8 54, .int .u8 55, .int .u8 56, .int .u8 57] 9 9 Try.underlying77 Try.underlying5
  have HSum : Hid (Calls Try.prog 34 #[.slice (some ⟨w3.heap.size, 0, none⟩) 9 9] (w3.alloc (.cells #[.int .u8 49, .int .u8 50, .int .u8 51, .int .u8 52, .int .u8 53, .int .u8 54, .int .u8 55, .int .u8 56, .int .u8 57] 5 (9, 10))) (fun e w' => e = .returned (.int .u32 3421780262) ∧ w' = w3.alloc (.cells #[.int .u8 49, .int .u8 50, .int .u8 51, .int .u8 52, .int .u8 53, .int .u8 54, .int .u8 55, .int .u8 56, .int .u8 57] 5 (9, 10)))) := by
    have h9 := psum_any (some ⟨w3.heap.size, 0, none⟩) 9 9 digits9 (w3.alloc (.cells #[.int .u8 49, .int .u8 50, .int .u8 51, .int .u8 52, .int .u8 53, .int .u8 54, .int .u8 55, .int .u8 56, .int .u8 57] 5 (9, 10))) (w3.heap.size + 1) ⟨rfl, fun _ => ⟨w3.heap.size, 0, rfl, by omega, fun j u hu => by
      rw [Nat.zero_add, World.cell?_alloc_mark]
      show (u8s digits9).toArray[j]? = _
      rw [List.getElem?_toArray]
      exact hu⟩⟩ ⟨Nat.le_refl _, by simp [maxLen]⟩ (by decide)
    rw [crc9] at h9
    exact h9
  go_wp2_with fail
  refine HSum.out.mono ?_
  rintro e wq ⟨rfl, rfl⟩
  have HW5 : Hid (Below w.heap.size w (w3.alloc (.cells #[.int .u8 49, .int .u8 50, .int .u8 51, .int .u8 52, .int .u8 53, .int .u8 54, .int .u8 55, .int .u8 56, .int .u8 57] 5 (9, 10)))) := HW3.out.alloc HW3.out.size _
  have HB5 : Hid (Blk (w3.alloc (.cells #[.int .u8 49, .int .u8 50, .int .u8 51, .int .u8 52, .int .u8 53, .int .u8 54, .int .u8 55, .int .u8 56, .int .u8 57] 5 (9, 10))) w2.heap.size 5 (u8s want9)) := HB3.out.alloc _
  have HS5 : Hid (Sl (w3.alloc (.cells #[.int .u8 49, .int .u8 50, .int .u8 51, .int .u8 52, .int .u8 53, .int .u8 54, .int .u8 55, .int .u8 56, .int .u8 57] 5 (9, 10))) w3.heap.size 1 A2 21 (u8s (imgB ses9 mvs9))) := by
    have h9 := HS3.out
    rw [img9_len] at h9
    exact (h9.up (by omega)).below ((Below.refl _ _).alloc (Nat.le_refl _) _)
  have hz35 : w3.heap.size ≤ (w3.alloc (.cells #[.int .u8 49, .int .u8 50, .int .u8 51, .int .u8 52, .int .u8 53, .int .u8 54, .int .u8 55, .int .u8 56, .int .u8 57] 5 (9, 10))).heap.size := by simp
  generalize w3.alloc (.cells #[.int .u8 49, .int .u8 50, .int .u8 51, .int .u8 52, .int .u8 53, .int .u8 54, .int .u8 55, .int .u8 56, .int .u8 57] 5 (9, 10)) = w5 at HW5 HB5 HS5 hz35 ⊢
  have hgb5 := HB5.out.lt
  have hz5 := HW5.out.size
  clear hcv
  go_wp2_with fail
  go_loopg [4] 17 (fun gk i wr => ∃ j : Nat, j + gk = 17 ∧ i = .int .i64 j ∧ Below w5.heap.size w5 wr)
  case atStart => exact ⟨0, by omega, rfl, Below.refl _ _⟩
  case round =>
    obtain ⟨j, hj, rfl, hbr⟩ := hrel
    by_cases hlt : j < 17
    · obtain ⟨x, hx⟩ := at_lt (show j < want9.length from hlt)
      obtain ⟨b, o, rfl, hb, hc⟩ := HS5.out.2 (by omega)
      have c1 : wr.cell? ⟨b, o + j, none⟩ = some (.int .u8 x) := (hbr.cell (by dsimp only; omega)).trans (hc j _ (u8s_get (img9_get hx)))
      have c2 : wr.cell? ⟨w2.heap.size, j, none⟩ = some (.int .u8 x) := (hbr.cell hgb5).trans (HB5.out.cell (u8s_get hx))
      have e1 : (j : Int) < 17 := by omega
      have e0 : (0 : Int) ≤ j := by omega
      have e2 : (j : Int) < 21 := by omega
      have b2 : ((x : Int) != (x : Int)) = false := by simp
      clear hc hx
      go_upto_region 8 with fail
      go_quiet (fail)
      go_wp2_with fail
      go_roundg (gk - 1)
      case measure => omega
      case rel => exact ⟨j + 1, by omega, by go_num, hbr.drewN _⟩
    · obtain rfl : j = 17 := by omega
      go_wp2_with fail
      go_ret
      exact ⟨rfl, HW5.out.trans (hbr.mono hz5)⟩
end Go.Proofs.Ytgbopmgeicokoaa
