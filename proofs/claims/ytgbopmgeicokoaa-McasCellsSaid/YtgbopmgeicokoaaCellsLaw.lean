/-
  McasCells: the law's walk.
-/
import Derived.Test.YtgbopmgeicokoaaSame
import Derived.Test.YtgbopmgeicokoaaRefCl
import Derived.Test.YtgbopmgeicokoaaMcasCl
import Derived.Test.YtgbopmgeicokoaaApp0
namespace Go.Proofs.Ytgbopmgeicokoaa
open Go.RowKit

theorem nats_one {l : List Nat} : ∀ u ∈ nats l, u.oneCell' = true := by
  intro u hu
  obtain ⟨x, _, rfl⟩ := List.mem_map.1 hu
  rfl
theorem cellsR_len (c : Mul) (ws : List Nat) (hc : c.cells.length ≤ maxLen) : (cellsR c ws).1.length ≤ maxLen := by
  unfold cellsR
  split
  · split
    · split
      · simp
      · rename_i l hl
        rw [cellsTo_len hl]
        exact hc
    · simp
  · simp

set_option maxRecDepth 100000 in
set_option maxHeartbeats 2000000 in
theorem law_cells (c : Mul) (A : Option Addr) (n k : Nat) (S : Option Addr) (m l : Nat) (WA : Option Addr) (wn wk : Nat) (ws : List Nat) (w : World) (h : MulAt w w.heap.size A n k S m l c) (hA : n * 8 ≤ 140737488355328) (hS : m * 24 ≤ 140737488355328)
    (hE : ∀ es ∈ c.swaps, es.length * 24 ≤ 140737488355328) (hws : Sl w w.heap.size 1 WA wn (nats ws)) (hwl : ∀ x ∈ ws, x < 18446744073709551616) (hW8 : wn * 8 ≤ 140737488355328) :
    Calls Try.prog 4 #[mulV c A n k S m l, .slice WA wn wk] w (TrueR w) := by
  have hn := h.n_eq
  have hwn : ws.length = wn := by have := hws.1; rw [nats_len] at this; omega
  obtain ⟨i0, hi0, hz0, hz1', hz2⟩ := info_parts info_u64
  have hlen := cellsR_len c ws (by rw [← hn]; exact Nat.le_trans h.nk.1 h.nk.2)
  obtain ⟨w0, hw0⟩ : ∃ w0 : World, w0 = w.alloc (.cells #[.int .i64 c.threads, .slice A n k, .slice S m l, .int .i64 c.uses] 33) := ⟨_, rfl⟩
  have hb0 : Below w.heap.size w w0 := by rw [hw0]; exact (Below.refl _ _).alloc (Nat.le_refl _) _
  have hz : w0.heap.size = w.heap.size + 1 := by rw [hw0]; simp
  have h0 : Blk w0 w.heap.size 33 [.int .i64 c.threads, .slice A n k, .slice S m l, .int .i64 c.uses] := by rw [hw0]; exact Blk.new w 33 _
  have hM := (h.below hb0)
  have HW0 := Lib.hid hw0
  have HB0 := Lib.hid hb0
  have HS : Hid (∀ W, Below w0.heap.size w0 W → Below w0.heap.size w0 W ∧ W.cell? ⟨w.heap.size, 0, none⟩ = some (.int .i64 c.threads) ∧ W.cell? ⟨w.heap.size, 1, none⟩ = some (.slice A n k) ∧ W.cell? ⟨w.heap.size, 2, none⟩ = some (.slice S m l) ∧ W.cell? ⟨w.heap.size, 3, none⟩ = some (.int .i64 c.uses)) :=
    fun W hB => ⟨hB, (hB.cell (by dsimp only; omega)).trans (h0.cell rfl), (hB.cell (by dsimp only; omega)).trans (h0.cell rfl), (hB.cell (by dsimp only; omega)).trans (h0.cell rfl), (hB.cell (by dsimp only; omega)).trans (h0.cell rfl)⟩
  have HM : Hid (∀ W, Below w0.heap.size w0 W → MulAt W W.heap.size A n k S m l c) := fun W hB => (hM.below (hB.mono (by omega))).up (by have := hB.size; omega)
  have HSl : Hid (∀ W, Below w0.heap.size w0 W → Sl W W.heap.size 1 WA wn (nats ws)) := fun W hB => ((hws.below hb0).below (hB.mono (by omega))).up (by have := hB.size; omega)
  have HZ := Lib.hid hz
  have HWL := Lib.hid hwl
  have HE := Lib.hid hE
  have HL := Lib.hid hlen
  clear h hws hwl hE hlen hn hwn hw0 hb0 h0 hM hz
  go_enter Try.func4, Try.ntmps4
  go_wp2_with fail
  rw [← HW0.out]
  refine (twin_any c A n k S m l _ (HM.out _ (Below.refl _ _)) hA hS HE.out).mono ?_
  rintro e w1 ⟨A1, k1, S1, l1, rfl, hM1, hb1⟩
  have hz1 := hb1.size
  go_wp2_with (at_builtin; go_must (refine wpList_app0 _ rfl _ _ 34 rfl w0.heap.size 59 i0 (.int .u64 0) 1 8 Try.underlying34 hi0 hz0 hz1' hz2 rfl (by decide) _ rfl (made_e _ _ _ hz1) _ WA wn wk (nats ws) rfl (HSl.out _ (hb1.alloc hz1 _)) nats_one (by simp only [maxLen]; omega) (by omega) (by rw [World.size_alloc]; omega) ?_; intro A2 k2 w2 hown2 hb2 _ hkk1 hkk2))
  have hbx : Below w1.heap.size w1 w2 := ((Below.refl _ w1).alloc (Nat.le_refl _) _).trans (hb2.mono (by rw [World.size_alloc]; omega))
  have hba := hb1.trans (hbx.mono hz1)
  have hz2' := hbx.size
  refine (cells_any c A1 n k1 S1 m l1 _ wn _ ws _ ((hM1.below hbx).up hbx.size) (Sl.of_own hown2) HWL.out).mono ?_
  rintro e w3 ⟨A3, k3, rfl, hs3, hb3⟩
  have hbc := hba.trans (hb3.mono (by omega))
  obtain ⟨q0, q1, q2, q3, q4⟩ := HS.out _ hbc
  have HS3 := Lib.hid hs3
  have hz3 := hb3.size
  clear hM1 hown2 hs3
  go_wp2_with fail
  refine (rcells_any c A n k S m l _ wn _ ws _ (HM.out _ hbc) (HSl.out _ hbc) HWL.out).mono ?_
  rintro e w4 ⟨A4, k4, rfl, hs4, hb4⟩
  have HS4 := Lib.hid hs4
  clear hs4
  go_wp2_with fail
  refine (same_any _ _ _ _ _ _ _ ((HS3.out.below hb4).up hb4.size) HS4.out HL.out).mono ?_
  rintro e w5 ⟨rfl, hb5⟩
  go_wp2_with fail
  refine (num_any _ _).mono ?_
  rintro e w6 ⟨rfl, rfl⟩
  have hbe : ((cellsR c ws).2 == (cellsR c ws).2) = true := by simp
  go_wp2_with fail
  go_ret
  exact ⟨rfl, HB0.out.trans ((hbc.trans ((hb4.trans (hb5.mono hb4.size)).mono (by omega))).mono (by have := HZ.out; omega))⟩
end Go.Proofs.Ytgbopmgeicokoaa
