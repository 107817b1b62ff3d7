/-
  reclaimref28.Op, and what the tables give of it.
-/
import Derived.Test.YtgbopmgeicokoaaWord
namespace Go.Proofs.Ytgbopmgeicokoaa
open Go.RowKit

/-- is i an op with that word? -/
def hit (k : Int) (s : List UInt8) (i : Int) : Bool := !(wordOf k i).isEmpty && wordOf k i == s
def Rop (k : Int) (s : List UInt8) (w : World) (e : Ending) (w' : World) : Prop :=
  ∃ r : Int, e = .returned (.int .i64 r) ∧ Below w.heap.size w w' ∧
    ((r = -1 ∧ ∀ i : Int, 1 ≤ i → i < 200 → hit k s i = false) ∨ (1 ≤ r ∧ r < 200 ∧ hit k s r = true))

theorem rop_any (k : Int) (s : ByteArray) (w : World) :
    Calls Try.prog 13 #[.int .i64 k, .string s] w (Rop k s.toList w) := by
  go_enter Try.func13, Try.ntmps13
  go_wp2_with fail
  go_loopw [5] (fun i wr => ∃ j : Int, 1 ≤ j ∧ j ≤ 200 ∧ i = .int .i64 j ∧ Below w.heap.size w wr ∧ Hid (∀ i : Int, 1 ≤ i → i < j → hit k s.toList i = false)) (fun i _ => 200 - (intOf i).toNat)
  case atStart => exact ⟨1, by omega, by omega, rfl, Below.refl _ _, fun i hi hj => absurd hi (by omega)⟩
  case round =>
    obtain ⟨j, hj1, hj2, rfl, hbr, hno⟩ := hrel
    by_cases hlt : j < 200
    · generalize hwd : wordOf k j = wd
      have Hw := Lib.hid hwd
      by_cases he : wd.isEmpty = true
      · have hn : hit k s.toList j = false := by simp [hit, hwd, he]
        have Hn := Lib.hid hn
        clear hn hwd
        go_wp2_with (go_at_call 15; refine (rword_any k j _).mono ?_; rw [Hw.out]; rintro e w1 ⟨rfl, hb⟩)
        go_roundw
        case rel =>
          refine ⟨j + 1, by omega, by omega, rfl, hbr.trans (hb.mono hbr.size), fun i h1 h2 => ?_⟩
          by_cases hij : i = j
          · subst hij; exact Hn.out
          · exact hno.out i h1 (by omega)
        case measure => simp [intOf]; omega
      · have he' : wd.isEmpty = false := by simpa using he
        clear he
        by_cases hs : (wd == s.toList) = true
        · have hn : hit k s.toList j = true := by simp [hit, hwd, he', hs]
          have Hn := Lib.hid hn
          clear hn hwd
          go_wp2_with (go_at_call 15; refine (rword_any k j _).mono ?_; rw [Hw.out]; rintro e w1 ⟨rfl, hb⟩)
          go_ret
          exact ⟨j, rfl, hbr.trans (hb.mono hbr.size), Or.inr ⟨hj1, hlt, Hn.out⟩⟩
        · have hs' : (wd == s.toList) = false := by simpa using hs
          clear hs
          have hn : hit k s.toList j = false := by simp [hit, hwd, hs']
          have Hn := Lib.hid hn
          clear hn hwd
          go_wp2_with (go_at_call 15; refine (rword_any k j _).mono ?_; rw [Hw.out]; rintro e w1 ⟨rfl, hb⟩)
          go_roundw
          case rel =>
            refine ⟨j + 1, by omega, by omega, rfl, hbr.trans (hb.mono hbr.size), fun i h1 h2 => ?_⟩
            by_cases hij : i = j
            · subst hij; exact Hn.out
            · exact hno.out i h1 (by omega)
          case measure => simp [intOf]; omega
    · obtain rfl : j = 200 := by omega
      go_wp2_with fail
      go_ret
      exact ⟨-1, rfl, hbr, Or.inl ⟨rfl, hno.out⟩⟩
end Go.Proofs.Ytgbopmgeicokoaa
