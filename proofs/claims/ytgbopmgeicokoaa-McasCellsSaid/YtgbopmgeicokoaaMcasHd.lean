/-
  mcas.entryOf and held.
-/
import Derived.Test.YtgbopmgeicokoaaMcasWd
import Derived.Deep.RegionHeld3
import Derived.Deep.QuietTactic
import Derived.BigQuiet
namespace Go.Proofs.Ytgbopmgeicokoaa
open Go.RowKit

def nats (l : List Nat) : List Value := l.map fun (x : Nat) => Value.int .u64 (x : Int)
theorem nats_get {l : List Nat} {k : Nat} {x : Nat} (h : l[k]? = some x) : (nats l)[k]? = some (.int .u64 (x : Int)) := by simp [nats, h]
theorem nats_len (l : List Nat) : (nats l).length = l.length := by simp [nats]

def zeroE : Ent := (0, 0, 0)
def entFound (c : Mul) (num : Nat) (cell : Int) : Option Ent := (c.swaps.getD num []).find? fun e => e.1 == cell
abbrev entV3 (e : Ent) : Value := .agg #[.int .i64 e.1, .int .i64 e.2.1, .int .i64 e.2.2]

/-- what entryOf answers -/
def EntR (c : Mul) (num : Nat) (cell : Int) (w : World) (e : Ending) (w' : World) : Prop :=
  e = .returned (.tuple #[entV3 ((entFound c num cell).getD zeroE), .bool (entFound c num cell).isSome]) ∧ Below w.heap.size w w'

theorem EntR.none {c : Mul} {num : Nat} {cell : Int} {w w' : World} (h : entFound c num cell = Option.none) (hb : Below w.heap.size w w') :
    EntR c num cell w (.returned (.tuple #[.agg #[.int .i64 0, .int .i64 0, .int .i64 0], .bool false])) w' := ⟨by rw [h]; rfl, hb⟩
theorem EntR.some {c : Mul} {num : Nat} {cell : Int} {w w' : World} {x : Ent} (h : entFound c num cell = Option.some x) (hb : Below w.heap.size w w') :
    EntR c num cell w (.returned (.tuple #[.agg #[.int .i64 x.1, .int .i64 x.2.1, .int .i64 x.2.2], .bool true])) w' := ⟨by rw [h]; rfl, hb⟩

set_option maxRecDepth 100000 in
set_option maxHeartbeats 1000000 in
theorem entryOf_any (c : Mul) (A : Option Addr) (n k : Nat) (S : Option Addr) (m l : Nat) (w : World) (h : MulAt w w.heap.size A n k S m l c) (num : Nat) (cell : Int) (hnum : num < 18446744073709551616) :
    Calls Try.prog 106 #[mulV c A n k S m l, .int .u64 (num : Int), .int .i64 cell] w (EntR c num cell w) := by
  have hm := h.m_eq
  have hl1 := h.ml.1
  have hl2 := h.ml.2
  unfold maxLen at hl2
  by_cases hnm : num < m
  · obtain ⟨es, hes⟩ := at_lt (l := c.swaps) (j := num) (by omega)
    obtain ⟨bb, o, A', n', c', hS, hbb, hc0, hsl, hn', hc1, hc2⟩ := h.swap hes
    subst hS
    have hcl : ((w.alloc (.cells #[.int .i64 c.threads, .slice A n k, .slice (some ⟨bb, o, none⟩) m l, .int .i64 c.uses] 33)).alloc (.cells #[.int .i64 0, .int .i64 0, .int .i64 0] 232)).cell? ⟨bb, o + num, none⟩ = some (.slice A' n' c') := by
      rw [World.cell?_alloc_lt _ _ _ (by simp; omega), World.cell?_alloc_lt _ _ _ hbb]; exact hc0
    have hfe : entFound c num cell = es.find? (fun e => e.1 == cell) := by
      unfold entFound
      rw [List.getD_eq_getElem?_getD, hes]; rfl
    have Hfe := Lib.hid hfe
    have Hn' := Lib.hid hn'
    have h15 : decide (m ≤ num) = false := by simp; omega
    unfold maxLen at hc2
    clear h hm hes hc0 hfe hn'
    go_enter Try.func106, Try.ntmps106
    go_wp2_with fail
    obtain ⟨w0, hw0⟩ : ∃ w0 : World, w0 = (w.alloc (.cells #[.int .i64 c.threads, .slice A n k, .slice (some ⟨bb, o, none⟩) m l, .int .i64 c.uses] 33)).alloc (.cells #[.int .i64 0, .int .i64 0, .int .i64 0] 232) := ⟨_, rfl⟩
    have z0 : w0.cell? ⟨w.heap.size + 1, 0, none⟩ = some (.int .i64 0) := by rw [hw0, new1_cell]; rfl
    have z1 : w0.cell? ⟨w.heap.size + 1, 1, none⟩ = some (.int .i64 0) := by rw [hw0, new1_cell]; rfl
    have z2 : w0.cell? ⟨w.heap.size + 1, 2, none⟩ = some (.int .i64 0) := by rw [hw0, new1_cell]; rfl
    have zf : ∀ i, w0.frozen? ⟨w.heap.size + 1, i, none⟩ = false := by intro i; rw [hw0, new1_frozen]
    have zs : w.heap.size + 2 = w0.heap.size := by rw [hw0]; simp
    have zb : Below w.heap.size w w0 := by rw [hw0]; exact ((Below.refl _ _).alloc (Nat.le_refl _) _).alloc (by simp) _
    have Zs := Lib.hid zs
    rw [← hw0]
    clear hw0 zs hcl
    go_loopg [23] n' (fun g i wr => ∃ j : Nat, j + g = n' ∧ i = .int .i64 j ∧ Below w0.heap.size w0 wr ∧ Hid (∀ i y, i < j → es[i]? = Option.some y → (y.1 == cell) = false))
    case atStart => exact ⟨0, by omega, rfl, Below.refl _ _, fun i y hi _ => absurd hi (by omega)⟩
    case round =>
      obtain ⟨j, hj, rfl, hbr, hno⟩ := hrel
      have hs2 : w.heap.size + 2 ≤ wr.heap.size := by have := hbr.size; have := Zs.out; omega
      have hsz : w.heap.size + 1 < wr.heap.size := by omega
      have d0 : wr.cell? ⟨w.heap.size + 1, 0, none⟩ = some (.int .i64 0) := (hbr.cell (by have := Zs.out; show w.heap.size + 1 < _; omega)).trans z0
      have d1 : wr.cell? ⟨w.heap.size + 1, 1, none⟩ = some (.int .i64 0) := (hbr.cell (by have := Zs.out; show w.heap.size + 1 < _; omega)).trans z1
      have d2 : wr.cell? ⟨w.heap.size + 1, 2, none⟩ = some (.int .i64 0) := (hbr.cell (by have := Zs.out; show w.heap.size + 1 < _; omega)).trans z2
      have f0 : ∀ i, wr.frozen? ⟨w.heap.size + 1, i, none⟩ = false := fun i => (hbr.frozen (by have := Zs.out; show w.heap.size + 1 < _; omega)).trans (zf i)
      have hbw : Below w.heap.size w wr := zb.trans (hbr.mono (by have := Zs.out; omega))
      by_cases hlt : j < n'
      · obtain ⟨⟨e0, e1, e2⟩, hx⟩ := at_lt (l := es) (j := j) (by rw [← Hn'.out]; exact hlt)
        obtain ⟨g0, g1, g2⟩ := entVals_get _ _ _ hx
        obtain ⟨b1, o1, rfl, hb1, hc⟩ := hsl.2 (by omega)
        have hb1' : b1 < w0.heap.size := by have := Zs.out; omega
        have hb1'' : b1 < wr.heap.size := by omega
        have hw1 : ∀ i, wr.cell? ⟨b1, i, none⟩ = w.cell? ⟨b1, i, none⟩ := fun i => hbw.cell hb1
        have c0 : wr.cell? ⟨b1, o1 + j * 3, none⟩ = some (.int .i64 e0) := (hw1 _).trans (hc _ _ g0)
        have c1 : wr.cell? ⟨b1, o1 + j * 3 + 1, none⟩ = some (.int .i64 e1) := (hw1 _).trans (hc _ _ g1)
        have c2 : wr.cell? ⟨b1, o1 + j * 3 + 2, none⟩ = some (.int .i64 e2) := (hw1 _).trans (hc _ _ g2)
        have Hx := Lib.hid hx
        clear hsl hc hx g0 g1 g2 hw1 z0 z1 z2 zf
        go_wp2_with fail
        · have he : (e0 == cell) = true := by assumption
          refine bodyPost_ret (v := .tuple #[.agg #[.int .i64 e0, .int .i64 e1, .int .i64 e2], .bool true]) (by simp [results, Try.results106, go_sem, d0, d1, d2, hsz]) rfl ?_
          exact EntR.some (Hfe.out.trans (find_at' Hx.out he hno.out)) (((((hbw.setCell (p := ⟨_, 0, none⟩) (by simp) _).setCell (p := ⟨_, 1, none⟩) (by simp) _).setCell (p := ⟨_, 2, none⟩) (by simp) _)).alloc (by simp; omega) _)
        · have he : (e0 == cell) = false := by assumption
          go_roundg (gk - 1)
          case measure => omega
          case rel =>
            refine ⟨j + 1, by omega, by go_num, hbr.alloc (by have := Zs.out; omega) _, fun i y hi hy => ?_⟩
            by_cases hij : i = j
            · subst hij
              rw [Hx.out] at hy
              injection hy with hy
              subst hy
              exact he
            · exact hno.out i y (by omega) hy
      · obtain rfl : n' = j := by omega
        go_wp2_with fail
        refine bodyPost_ret (v := .tuple #[.agg #[.int .i64 0, .int .i64 0, .int .i64 0], .bool false]) (by simp [results, Try.results106, go_sem, d0, d1, d2]) rfl ?_
        exact EntR.none (Hfe.out.trans (find_no' (by rw [← Hn'.out]; exact hno.out))) (((hbw.setCell (p := ⟨_, 0, none⟩) (by simp) _).setCell (p := ⟨_, 1, none⟩) (by simp) _).setCell (p := ⟨_, 2, none⟩) (by simp) _)
  · have hfe : entFound c num cell = Option.none := by
      unfold entFound
      rw [List.getD_eq_getElem?_getD, List.getElem?_eq_none (by omega)]; rfl
    have Hfe := Lib.hid hfe
    clear h hm hfe
    go_enter Try.func106, Try.ntmps106
    go_wp2_with fail
    refine bodyPost_ret (v := .tuple #[.agg #[.int .i64 0, .int .i64 0, .int .i64 0], .bool false]) (by simp [results, Try.results106, go_sem]) rfl ?_
    exact EntR.none Hfe.out (by repeat (first | exact Below.refl _ _ | refine Below.alloc ?_ (by simp) _ | refine Below.setCell ?_ (by simp) _))
end Go.Proofs.Ytgbopmgeicokoaa
