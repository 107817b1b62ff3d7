/-
  Small functions of clocks: wrote, Wrote, num, sameInts, Ahead, Book.of.
-/
import Derived.Test.YtgbopmgeicokoaaProg
import Derived.Test.YtgbopmgeicokoaaAcc
import Derived.Test.YtgbopmgeicokoaaMul
import Derived.Test.YtgbopmgeicokoaaWPlain
namespace Go.Proofs.Ytgbopmgeicokoaa
open Go.RowKit

set_option maxHeartbeats 1000000 in
theorem wrote_any (a : Acc) (w : World) : Calls Try.prog 115 #[accV a] w (BoolR (wroteB a) w) := by
  have hw : wroteB a = ((a.kind == 2) || ((a.kind == 3) && (a.saw == a.old))) := rfl
  cases e1 : (a.kind == 2) with
  | true =>
    have HW := Lib.hid (hw.trans (by rw [e1]; rfl) : wroteB a = true)
    clear hw
    go_enter Try.func115, Try.ntmps115
    go_wp2_with fail
    go_ret
    exact ⟨by rw [HW.out]; rfl, (Below.refl _ _).alloc (Nat.le_refl _) _⟩
  | false =>
    cases e2 : (a.kind == 3) with
    | false =>
      have HW := Lib.hid (hw.trans (by rw [e1, e2]; rfl) : wroteB a = false)
      clear hw
      go_enter Try.func115, Try.ntmps115
      go_wp2_with fail
      go_ret
      exact ⟨by rw [HW.out]; rfl, (Below.refl _ _).alloc (Nat.le_refl _) _⟩
    | true =>
      cases e3 : (a.saw == a.old) with
      | true =>
        have HW := Lib.hid (hw.trans (by rw [e1, e2, e3]; rfl) : wroteB a = true)
        clear hw
        go_enter Try.func115, Try.ntmps115
        go_wp2_with fail
        go_ret
        exact ⟨by rw [HW.out]; rfl, (Below.refl _ _).alloc (Nat.le_refl _) _⟩
      | false =>
        have HW := Lib.hid (hw.trans (by rw [e1, e2, e3]; rfl) : wroteB a = false)
        clear hw
        go_enter Try.func115, Try.ntmps115
        go_wp2_with fail
        go_ret
        exact ⟨by rw [HW.out]; rfl, (Below.refl _ _).alloc (Nat.le_refl _) _⟩

set_option maxHeartbeats 1000000 in
theorem rwrote_any (a : Acc) (w : World) : Calls Try.prog 64 #[accV a] w (BoolR (wroteB a) w) := by
  have hw : wroteB a = ((a.kind == 2) || ((a.kind == 3) && (a.saw == a.old))) := rfl
  cases e1 : (a.kind == 2) with
  | true =>
    have HW := Lib.hid (hw.trans (by rw [e1]; rfl) : wroteB a = true)
    clear hw
    go_enter Try.func64, Try.ntmps64
    go_wp2_with fail
    go_ret
    exact ⟨by rw [HW.out]; rfl, (Below.refl _ _).alloc (Nat.le_refl _) _⟩
  | false =>
    cases e2 : (a.kind == 3) with
    | false =>
      have HW := Lib.hid (hw.trans (by rw [e1, e2]; rfl) : wroteB a = false)
      clear hw
      go_enter Try.func64, Try.ntmps64
      go_wp2_with fail
      go_ret
      exact ⟨by rw [HW.out]; rfl, (Below.refl _ _).alloc (Nat.le_refl _) _⟩
    | true =>
      cases e3 : (a.saw == a.old) with
      | true =>
        have HW := Lib.hid (hw.trans (by rw [e1, e2, e3]; rfl) : wroteB a = true)
        clear hw
        go_enter Try.func64, Try.ntmps64
        go_wp2_with fail
        go_ret
        exact ⟨by rw [HW.out]; rfl, (Below.refl _ _).alloc (Nat.le_refl _) _⟩
      | false =>
        have HW := Lib.hid (hw.trans (by rw [e1, e2, e3]; rfl) : wroteB a = false)
        clear hw
        go_enter Try.func64, Try.ntmps64
        go_wp2_with fail
        go_ret
        exact ⟨by rw [HW.out]; rfl, (Below.refl _ _).alloc (Nat.le_refl _) _⟩

theorem num27_any (x : Int) (w : World) : Calls Try.prog 24 #[.int .i64 x] w (fun e w' => e = .returned (.int .i64 x) ∧ w' = w) := by
  go_enter Try.func24, Try.ntmps24
  go_wp2_with fail
  go_ret
  exact ⟨rfl, rfl⟩

set_option maxRecDepth 100000 in
set_option maxHeartbeats 2000000 in
theorem same27_any (l : List Int) (A A' : Option Addr) (n k k' : Nat) (w : World) (h : Sl w w.heap.size 1 A n (ints l)) (h' : Sl w w.heap.size 1 A' n (ints l)) (hn : n ≤ maxLen) :
    Calls Try.prog 26 #[.slice A n k, .slice A' n k'] w (BoolR true w) := by
  unfold maxLen at hn
  have r0 : ((n : Int) != (n : Int)) = false := by simp
  have hl : l.length = n := by have := h.1; rw [ints_len] at this; omega
  have HA := Lib.hid h
  have HA' := Lib.hid h'
  have Hl := Lib.hid hl
  clear h h' hl
  go_enter Try.func26, Try.ntmps26
  go_wp2_with fail
  go_loopg [5] n (fun g i wr => ∃ j : Nat, j + g = n ∧ i = .int .i64 j ∧ Below w.heap.size w wr)
  case atStart => exact ⟨0, by omega, rfl, Below.refl _ _⟩
  case round =>
    obtain ⟨j, hj, rfl, hbr⟩ := hrel
    by_cases hlt : j < n
    · obtain ⟨x, hx⟩ := at_lt (by rw [Hl.out]; exact hlt : j < l.length)
      obtain ⟨b, o, rfl, hb, hc⟩ := HA.out.2 (by omega)
      obtain ⟨b', o', rfl, hb', hc'⟩ := HA'.out.2 (by omega)
      have c1 : wr.cell? ⟨b, o + j, none⟩ = some (.int .i64 x) := (hbr.cell hb).trans (hc j _ (ints_get hx))
      have c2 : wr.cell? ⟨b', o' + j, none⟩ = some (.int .i64 x) := (hbr.cell hb').trans (hc' j _ (ints_get hx))
      have e1 : (j : Int) < n := by omega
      have e0 : (0 : Int) ≤ j := by omega
      have r1 : ((x : Int) != x) = false := by simp
      clear hx hc hc'
      go_upto_region 6 with fail
      go_quiet (fail)
      go_wp2_with fail
      go_roundg (gk - 1)
      case measure => omega
      case rel => exact ⟨j + 1, by omega, by go_num, hbr.drewN _⟩
    · obtain rfl : n = j := by omega
      go_wp2_with fail
      go_ret
      exact ⟨rfl, hbr⟩

/-- the place of a word in a book: -1: none -/
def ofFrom (a : Int) : Nat → List Int → Int
  | _, [] => -1
  | j, x :: r => if x = a then (j : Int) else ofFrom a (j + 1) r
set_option maxRecDepth 100000 in
set_option maxHeartbeats 2000000 in
theorem of_any (g : Nat) (a : Int) (l : List Int) (A : Option Addr) (n k : Nat) (w : World) (h : Sl w w.heap.size 1 A n (ints l)) (hn : n ≤ maxLen) (hg : g < w.heap.size) (hc : w.cell? ⟨g, 0, none⟩ = some (.slice A n k)) :
    Calls Try.prog 62 #[.pointer (some ⟨g, 0, none⟩), .int .i64 a] w (IntR (ofFrom a 0 l) w) := by
  unfold maxLen at hn
  have hl : l.length = n := by have := h.1; rw [ints_len] at this; omega
  have HA := Lib.hid h
  have Hl := Lib.hid hl
  have HC := Lib.hid hc
  clear h hl hc
  go_enter Try.func62, Try.ntmps62
  go_wp2_with fail
  go_loopg [5] n (fun gk i wr => ∃ j : Nat, j + gk = n ∧ i = .int .i64 j ∧ Below w.heap.size w wr ∧ Hid (ofFrom a 0 l = ofFrom a j (l.drop j)))
  case atStart => exact ⟨0, by omega, rfl, Below.refl _ _, rfl⟩
  case round =>
    obtain ⟨j, hj, rfl, hbr, HO⟩ := hrel
    have hgc : wr.cell? ⟨g, 0, none⟩ = some (.slice A n k) := (hbr.cell hg).trans HC.out
    by_cases hlt : j < n
    · obtain ⟨x, hx⟩ := at_lt (by rw [Hl.out]; exact hlt : j < l.length)
      obtain ⟨b, o, rfl, hb, hc⟩ := HA.out.2 (by omega)
      have c1 : wr.cell? ⟨b, o + j, none⟩ = some (.int .i64 x) := (hbr.cell hb).trans (hc j _ (ints_get hx))
      have e1 : (j : Int) < n := by omega
      have e0 : (0 : Int) ≤ j := by omega
      have hst : ofFrom a j (l.drop j) = if x = a then (j : Int) else ofFrom a (j + 1) (l.drop (j + 1)) := by rw [drop_cons hx]; rfl
      have HST := Lib.hid hst
      clear hx hc hst
      cases r1 : ((x : Int) == a) with
      | true =>
        have hx : x = a := by simpa using r1
        have HX := Lib.hid hx
        clear hx
        go_wp2_with fail
        go_ret
        exact IntR.to hbr (by rw [HO.out, HST.out, if_pos HX.out])
      | false =>
        have hx : ¬ x = a := by simpa using r1
        have HX := Lib.hid hx
        clear hx
        go_wp2_with fail
        go_roundg (gk - 1)
        case measure => omega
        case rel => exact ⟨j + 1, by omega, by go_num, hbr, by rw [HO.out, HST.out, if_neg HX.out]; rfl⟩
    · obtain rfl : n = j := by omega
      go_wp2_with fail
      go_ret
      refine IntR.to hbr ?_
      rw [HO.out, List.drop_of_length_le (by have := Hl.out; omega)]
      rfl
end Go.Proofs.Ytgbopmgeicokoaa
