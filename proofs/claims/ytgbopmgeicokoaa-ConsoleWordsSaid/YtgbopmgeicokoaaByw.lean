/-
  console.byWord, byOp, Op and Word by their tables.
-/
import Derived.Test.YtgbopmgeicokoaaEnts
import Derived.Deep.LoopGhost
namespace Go.Proofs.Ytgbopmgeicokoaa
open Go.RowKit

theorem find_at {α : Type} {l : List α} {p : α → Bool} {j : Nat} {x : α} (h : l[j]? = some x) (hp : p x = true) (hlt : ∀ i y, i < j → l[i]? = some y → p y = false) : l.find? p = some x := by
  induction l generalizing j with
  | nil => simp at h
  | cons a l ih =>
    cases j with
    | zero => simp at h; subst h; simp [hp]
    | succ j =>
      have ha := hlt 0 a (by omega) rfl
      rw [List.find?_cons_of_neg (by simp [ha])]
      exact ih (j := j) (by simpa using h) (fun i y hi hy => hlt (i + 1) y (by omega) (by simpa using hy))
theorem find_no {α : Type} {l : List α} {p : α → Bool} (hlt : ∀ i y, i < l.length → l[i]? = some y → p y = false) : l.find? p = none := by
  rw [List.find?_eq_none]
  intro x hx
  obtain ⟨i, hi, he⟩ := List.mem_iff_getElem.1 hx
  have := hlt i x hi (by rw [List.getElem?_eq_getElem hi, he])
  simp [this]

def entV : Option (Int × List UInt8 × Int) → Value
  | some x => .agg #[.int .i64 x.1, .string ⟨x.2.1.toArray⟩, .int .i64 x.2.2]
  | none => .agg #[.int .i64 0, .string ⟨#[]⟩, .int .i64 0]

def Fnd (p : Int × List UInt8 × Int → Bool) (k : Int) (w : World) (e : Ending) (w' : World) : Prop :=
  e = .returned (.tuple #[entV ((tab k).find? p), .bool ((tab k).find? p).isSome]) ∧ Below w.heap.size w w'

theorem tab_le (k : Int) : (tab k).length ≤ 19 := by
  unfold tab
  repeat' split
  all_goals simp

theorem Fnd.some {p : Int × List UInt8 × Int → Bool} {k : Int} {w w' : World} {x : Int × List UInt8 × Int} (h : (tab k).find? p = some x) (hb : Below w.heap.size w w') :
    Fnd p k w (.returned (.tuple #[.agg #[.int .i64 x.1, .string ⟨x.2.1.toArray⟩, .int .i64 x.2.2], .bool true])) w' := ⟨by rw [h]; rfl, hb⟩
theorem Fnd.none {p : Int × List UInt8 × Int → Bool} {k : Int} {w w' : World} (h : (tab k).find? p = none) (hb : Below w.heap.size w w') :
    Fnd p k w (.returned (.tuple #[.agg #[.int .i64 0, .string ⟨#[]⟩, .int .i64 0], .bool false])) w' := ⟨by rw [h]; rfl, hb⟩

theorem byw_below {w w1 wr : World} {o : Obj} (hb : Below (w.alloc o).heap.size (w.alloc o) w1) (hbr : Below w1.heap.size w1 wr) : Below w.heap.size w wr := by
  have hz := hb.size
  simp at hz
  exact (((Below.refl _ _).alloc (Nat.le_refl _) o).trans (hb.mono (by simp))).trans (hbr.mono (by omega))

set_option maxHeartbeats 400000 in
theorem byWord_any (k : Int) (s : ByteArray) (w : World) :
    Calls Try.prog 51 #[.int .i64 k, .string s] w (Fnd (fun x => x.2.1 == s.toList) k w) := by
  go_enter Try.func51, Try.ntmps51
  go_wp2_with (go_at_call 102; refine (entries_any k _).mono ?_; rintro e w1 ⟨A, c, rfl, hs, hb⟩)
  have hlen := tab_le k
  generalize hn : (tab k).length = n at *
  have Hn := Lib.hid hn
  clear hn
  go_loopw [11] (fun i wr => ∃ j : Nat, j ≤ n ∧ i = .int .i64 j ∧ Below w1.heap.size w1 wr ∧ Hid (∀ i y, i < j → (tab k)[i]? = some y → (y.2.1 == s.toList) = false)) (fun i _ => n - (intOf i).toNat)
  case atStart => exact ⟨0, Nat.zero_le _, rfl, Below.refl _ _, fun i y hi _ => absurd hi (by omega)⟩
  case round =>
    obtain ⟨j, hj, rfl, hbr, hno⟩ := hrel
    have hbw := byw_below hb hbr
    have hz : w.heap.size + 1 ≤ w1.heap.size := by have := hb.size; simp at this; omega
    have hz' : w1.heap.size ≤ wr.heap.size := hbr.size
    have hsz : w.heap.size < wr.heap.size := by omega
    have d0 : wr.cell? ⟨w.heap.size, 0, none⟩ = some (.int .i64 0) := (hbr.cell (by show w.heap.size < _; omega)).trans ((hb.cell (by simp)).trans (by simp))
    have d1 : wr.cell? ⟨w.heap.size, 1, none⟩ = some (.string ⟨#[]⟩) := (hbr.cell (by show w.heap.size < _; omega)).trans ((hb.cell (by simp)).trans (by simp))
    have d2 : wr.cell? ⟨w.heap.size, 2, none⟩ = some (.int .i64 0) := (hbr.cell (by show w.heap.size < _; omega)).trans ((hb.cell (by simp)).trans (by simp))
    have f0 : ∀ i, wr.frozen? ⟨w.heap.size, i, none⟩ = false := fun i => (hbr.frozen (by show w.heap.size < _; omega)).trans ((hb.frozen (by simp)).trans (by simp))
    by_cases hlt : j < n
    · obtain ⟨b, o, rfl, hbb, hc⟩ := hs.2 (by omega)
      have hx : ∃ x, (tab k)[j]? = some x := ⟨_, List.getElem?_eq_getElem (by rw [Hn.out]; exact hlt)⟩
      obtain ⟨⟨op, wd, m⟩, hx⟩ := hx
      obtain ⟨g0, g1, g2⟩ := vals_get _ _ _ hx
      have c0 : wr.cell? ⟨b, o + j * 3, none⟩ = some (.int .i64 op) := (hbr.cell hbb).trans (hc _ _ g0)
      have c1 : wr.cell? ⟨b, o + j * 3 + 1, none⟩ = some (.string ⟨wd.toArray⟩) := (hbr.cell hbb).trans (hc _ _ g1)
      have c2 : wr.cell? ⟨b, o + j * 3 + 2, none⟩ = some (.int .i64 m) := (hbr.cell hbb).trans (hc _ _ g2)
      have Hx := Lib.hid hx
      clear hs hz hc hx g0 g1 g2
      go_wp2
      · have he : (wd == s.toList) = true := by assumption
        refine bodyPost_ret (v := .tuple #[.agg #[.int .i64 op, .string ⟨wd.toArray⟩, .int .i64 m], .bool true]) (by simp [results, Try.results51, go_sem, hsz, d0, d1, d2]) rfl ?_
        exact Fnd.some (find_at Hx.out he hno.out) (((((hbw.setCell (p := ⟨_, 0, none⟩) (Nat.le_refl _) _).setCell (p := ⟨_, 1, none⟩) (Nat.le_refl _) _).setCell (p := ⟨_, 2, none⟩) (Nat.le_refl _) _)).alloc (by simp; omega) _)
      · have he : (wd == s.toList) = false := by assumption
        go_roundw
        case rel =>
          refine ⟨j + 1, by omega, by go_num, hbr.alloc hz' _, fun i y hi hy => ?_⟩
          by_cases hij : i = j
          · subst hij
            rw [Hx.out] at hy
            injection hy with hy
            subst hy
            exact he
          · exact hno.out i y (by omega) hy
        case measure => simp [intOf]; omega
    · obtain rfl : j = n := by omega
      go_wp2
      refine bodyPost_ret (v := .tuple #[.agg #[.int .i64 0, .string ⟨#[]⟩, .int .i64 0], .bool false]) (by simp [results, Try.results51, go_sem, d0, d1, d2]) rfl ?_
      exact Fnd.none (find_no (by rw [Hn.out]; exact hno.out)) (((hbw.setCell (p := ⟨_, 0, none⟩) (Nat.le_refl _) _).setCell (p := ⟨_, 1, none⟩) (Nat.le_refl _) _).setCell (p := ⟨_, 2, none⟩) (Nat.le_refl _) _)
set_option maxHeartbeats 400000 in
theorem byOp_any (k : Int) (q : Int) (w : World) :
    Calls Try.prog 52 #[.int .i64 k, .int .i64 q] w (Fnd (fun x => x.1 == q) k w) := by
  go_enter Try.func52, Try.ntmps52
  go_wp2_with (go_at_call 102; refine (entries_any k _).mono ?_; rintro e w1 ⟨A, c, rfl, hs, hb⟩)
  have hlen := tab_le k
  generalize hn : (tab k).length = n at *
  have Hn := Lib.hid hn
  clear hn
  go_loopw [11] (fun i wr => ∃ j : Nat, j ≤ n ∧ i = .int .i64 j ∧ Below w1.heap.size w1 wr ∧ Hid (∀ i y, i < j → (tab k)[i]? = some y → (y.1 == q) = false)) (fun i _ => n - (intOf i).toNat)
  case atStart => exact ⟨0, Nat.zero_le _, rfl, Below.refl _ _, fun i y hi _ => absurd hi (by omega)⟩
  case round =>
    obtain ⟨j, hj, rfl, hbr, hno⟩ := hrel
    have hbw := byw_below hb hbr
    have hz : w.heap.size + 1 ≤ w1.heap.size := by have := hb.size; simp at this; omega
    have hz' : w1.heap.size ≤ wr.heap.size := hbr.size
    have hsz : w.heap.size < wr.heap.size := by omega
    have d0 : wr.cell? ⟨w.heap.size, 0, none⟩ = some (.int .i64 0) := (hbr.cell (by show w.heap.size < _; omega)).trans ((hb.cell (by simp)).trans (by simp))
    have d1 : wr.cell? ⟨w.heap.size, 1, none⟩ = some (.string ⟨#[]⟩) := (hbr.cell (by show w.heap.size < _; omega)).trans ((hb.cell (by simp)).trans (by simp))
    have d2 : wr.cell? ⟨w.heap.size, 2, none⟩ = some (.int .i64 0) := (hbr.cell (by show w.heap.size < _; omega)).trans ((hb.cell (by simp)).trans (by simp))
    have f0 : ∀ i, wr.frozen? ⟨w.heap.size, i, none⟩ = false := fun i => (hbr.frozen (by show w.heap.size < _; omega)).trans ((hb.frozen (by simp)).trans (by simp))
    by_cases hlt : j < n
    · obtain ⟨b, o, rfl, hbb, hc⟩ := hs.2 (by omega)
      have hx : ∃ x, (tab k)[j]? = some x := ⟨_, List.getElem?_eq_getElem (by rw [Hn.out]; exact hlt)⟩
      obtain ⟨⟨op, wd, m⟩, hx⟩ := hx
      obtain ⟨g0, g1, g2⟩ := vals_get _ _ _ hx
      have c0 : wr.cell? ⟨b, o + j * 3, none⟩ = some (.int .i64 op) := (hbr.cell hbb).trans (hc _ _ g0)
      have c1 : wr.cell? ⟨b, o + j * 3 + 1, none⟩ = some (.string ⟨wd.toArray⟩) := (hbr.cell hbb).trans (hc _ _ g1)
      have c2 : wr.cell? ⟨b, o + j * 3 + 2, none⟩ = some (.int .i64 m) := (hbr.cell hbb).trans (hc _ _ g2)
      have Hx := Lib.hid hx
      clear hs hz hc hx g0 g1 g2
      go_wp2
      · have he : (op == q) = true := by assumption
        refine bodyPost_ret (v := .tuple #[.agg #[.int .i64 op, .string ⟨wd.toArray⟩, .int .i64 m], .bool true]) (by simp [results, Try.results52, go_sem, hsz, d0, d1, d2]) rfl ?_
        exact Fnd.some (find_at Hx.out he hno.out) (((((hbw.setCell (p := ⟨_, 0, none⟩) (Nat.le_refl _) _).setCell (p := ⟨_, 1, none⟩) (Nat.le_refl _) _).setCell (p := ⟨_, 2, none⟩) (Nat.le_refl _) _)).alloc (by simp; omega) _)
      · have he : (op == q) = false := by assumption
        go_roundw
        case rel =>
          refine ⟨j + 1, by omega, by go_num, hbr.alloc hz' _, fun i y hi hy => ?_⟩
          by_cases hij : i = j
          · subst hij
            rw [Hx.out] at hy
            injection hy with hy
            subst hy
            exact he
          · exact hno.out i y (by omega) hy
        case measure => simp [intOf]; omega
    · obtain rfl : j = n := by omega
      go_wp2
      refine bodyPost_ret (v := .tuple #[.agg #[.int .i64 0, .string ⟨#[]⟩, .int .i64 0], .bool false]) (by simp [results, Try.results52, go_sem, d0, d1, d2]) rfl ?_
      exact Fnd.none (find_no (by rw [Hn.out]; exact hno.out)) (((hbw.setCell (p := ⟨_, 0, none⟩) (Nat.le_refl _) _).setCell (p := ⟨_, 1, none⟩) (Nat.le_refl _) _).setCell (p := ⟨_, 2, none⟩) (Nat.le_refl _) _)
end Go.Proofs.Ytgbopmgeicokoaa
