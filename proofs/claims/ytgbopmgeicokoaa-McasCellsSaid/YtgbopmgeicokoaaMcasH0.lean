/-
  mcas.held, whatever the word; mcas.Cells.
-/
import Derived.Test.YtgbopmgeicokoaaMcasH1
namespace Go.Proofs.Ytgbopmgeicokoaa
open Go.RowKit

/-- what a cell of words holds -/
def heldF (c : Mul) (ws : List Nat) (cell : Nat) : Option Int :=
  let x := ws.getD cell 0
  if x % 4 = 0 then (if x / 4 ≤ 1048575 then some ((x / 4 : Nat) : Int) else none)
  else if x % 4 = 2 then
    if c.threads * c.uses ≤ ((x / 4 : Nat) : Int) then none
    else val2 (entFound c (ws.getD (c.cells.length + c.threads.toNat + 2 * (x / 4) + 1) 0) cell) (ws.getD (c.cells.length + c.threads.toNat + 2 * (x / 4)) 0)
  else if x % 4 = 1 then
    val1 c (x / 4 % 16) (x / 64) (ws.getD (c.cells.length + x / 4 % 16) 0) (ws.getD (c.cells.length + c.threads.toNat + 2 * (ws.getD (c.cells.length + x / 4 % 16) 0 / 4 % 1024) + 1) 0) cell
  else none

theorem held_0 (c : Mul) (A : Option Addr) (n k : Nat) (S : Option Addr) (m l : Nat) (wb wo wn wk : Nat) (w : World) (hF : OkF c) (cell x : Nat)
    (hx : w.cell? ⟨wb, wo + cell, none⟩ = some (.int .u64 (x : Int))) (hcell : cell < wn) (hx2 : x % 4 = 0) (hxl : Hid (x < 18446744073709551616)) :
    Calls Try.prog 55 #[mulV c A n k S m l, .slice (some ⟨wb, wo, none⟩) wn wk, .int .i64 (cell : Int)] w (HeldR (if x / 4 ≤ 1048575 then some ((x / 4 : Nat) : Int) else none) w) := by
  have hwx := World.block_lt_of_cell? w _ hx
  have r0 : ((x : Int) % 4 == 0) = true := by rw [beq_iff_eq]; omega
  have w1 : IntKind.u64.wrap ((x : Int) / 4) = (x : Int) / 4 := u64_div hxl (by omega)
  have w7 : IntKind.i64.wrap ((x : Int) / 4) = (x : Int) / 4 := IntWalk.i64_in _ (by have := hxl.out; omega)
  have hP := hF.tu
  have hP1 := hP.1
  have hP2 := hP.2
  clear hP hF
  by_cases hv : x / 4 ≤ 1048575
  · have hb : decide ((x : Int) / 4 ≤ 1048575) = true := by rw [decide_eq_true_eq]; omega
    have HV := Lib.hid hv
    have he : (if x / 4 ≤ 1048575 then some ((x / 4 : Nat) : Int) else none) = some ((x : Int) / 4) := by rw [if_pos hv]; rfl
    rw [he]
    have hle : (x : Int) / 4 ≤ 1048575 := by omega
    clear hv he
    go_enter Try.func55, Try.ntmps55
    go_wp2_with fail
    go_ret2
    exact HeldR.yes rfl ((Below.refl _ _).alloc (Nat.le_refl _) _)
  · have hb : decide ((x : Int) / 4 ≤ 1048575) = false := by rw [decide_eq_false_iff_not]; omega
    rw [if_neg hv]
    clear hv
    go_enter Try.func55, Try.ntmps55
    go_wp2_with fail
    go_ret2
    exact HeldR.no rfl ((Below.refl _ _).alloc (Nat.le_refl _) _) _

theorem held_3 (c : Mul) (A : Option Addr) (n k : Nat) (S : Option Addr) (m l : Nat) (wb wo wn wk : Nat) (w : World) (hF : OkF c) (cell x : Nat)
    (hx : w.cell? ⟨wb, wo + cell, none⟩ = some (.int .u64 (x : Int))) (hcell : cell < wn) (hx2 : x % 4 = 3) :
    Calls Try.prog 55 #[mulV c A n k S m l, .slice (some ⟨wb, wo, none⟩) wn wk, .int .i64 (cell : Int)] w (HeldR none w) := by
  have hwx := World.block_lt_of_cell? w _ hx
  have r0 : ((x : Int) % 4 == 0) = false := by rw [beq_eq_false_iff_ne]; omega
  have r1 : ((x : Int) % 4 == 2) = false := by rw [beq_eq_false_iff_ne]; omega
  have r2 : ((x : Int) % 4 == 1) = false := by rw [beq_eq_false_iff_ne]; omega
  have hP := hF.tu
  have hP1 := hP.1
  have hP2 := hP.2
  clear hP hF
  go_enter Try.func55, Try.ntmps55
  go_wp2_with fail
  go_ret2
  exact HeldR.no rfl ((Below.refl _ _).alloc (Nat.le_refl _) _) _

theorem held_2f (c : Mul) (A : Option Addr) (n k : Nat) (S : Option Addr) (m l : Nat) (wb wo wn wk : Nat) (w : World) (hF : OkF c) (cell x : Nat)
    (hx : w.cell? ⟨wb, wo + cell, none⟩ = some (.int .u64 (x : Int))) (hcell : cell < wn) (hx2 : x % 4 = 2) (hxl : Hid (x < 18446744073709551616)) (hd : c.threads * c.uses ≤ (x : Int) / 4) :
    Calls Try.prog 55 #[mulV c A n k S m l, .slice (some ⟨wb, wo, none⟩) wn wk, .int .i64 (cell : Int)] w (HeldR none w) := by
  have hwx := World.block_lt_of_cell? w _ hx
  have r0 : ((x : Int) % 4 == 0) = false := by rw [beq_eq_false_iff_ne]; omega
  have r1 : ((x : Int) % 4 == 2) = true := by rw [beq_iff_eq]; omega
  have w1 : IntKind.u64.wrap ((x : Int) / 4) = (x : Int) / 4 := u64_div hxl (by omega)
  have hdB : decide (c.threads * c.uses ≤ (x : Int) / 4) = true := by rw [decide_eq_true_eq]; exact hd
  have hP := hF.tu
  have hP1 := hP.1
  have hP2 := hP.2
  clear hP hF
  go_enter Try.func55, Try.ntmps55
  go_wp2_with fail
  go_ret2
  exact HeldR.no rfl ((Below.refl _ _).alloc (Nat.le_refl _) _) _

theorem held_any (c : Mul) (A : Option Addr) (n k : Nat) (S : Option Addr) (m l : Nat) (wb wo wk : Nat) (ws : List Nat) (w : World) (h : MulAt w w.heap.size A n k S m l c) (hF : OkF c)
    (hws : Sl w w.heap.size 1 (some ⟨wb, wo, none⟩) (nwN c) (nats ws)) (hwl : ∀ x ∈ ws, x < 18446744073709551616) (cell : Nat) (hcell : cell < n) :
    Calls Try.prog 55 #[mulV c A n k S m l, .slice (some ⟨wb, wo, none⟩) (nwN c) wk, .int .i64 (cell : Int)] w (HeldR (heldF c ws cell) w) := by
  have hn := h.n_eq
  have hN := nwN_int hF
  have hN2 := nwN_le hF
  have hT1 := hF.t1
  have hT2 := hF.t2
  have hTU := hF.tu2
  have hTU' := hF.tu
  have hlen : ws.length = nwN c := by have := hws.1; rw [nats_len] at this; omega
  have hcells : ∀ i, i < nwN c → w.cell? ⟨wb, wo + i, none⟩ = some (.int .u64 ((ws.getD i 0 : Nat) : Int)) := by
    intro i hi
    obtain ⟨x, hx⟩ := at_lt (l := ws) (j := i) (by omega)
    obtain ⟨b, o, hA, hb, hc⟩ := hws.2 (by omega)
    injection hA with hA
    injection hA with h1 h2
    subst h1; subst h2
    rw [List.getD_eq_getElem?_getD, hx]
    exact hc _ _ (nats_get hx)
  have hlt : ∀ i, ws.getD i 0 < 18446744073709551616 := by
    intro i
    rw [List.getD_eq_getElem?_getD]
    cases hx : ws[i]? with
    | none => simp
    | some x => exact hwl x (List.mem_of_getElem? hx)
  have hT3 : ((c.threads.toNat : Nat) : Int) = c.threads := Int.toNat_of_nonneg (by omega)
  unfold heldF
  generalize hxv : ws.getD cell 0 = x
  have hx := hcells cell (by omega)
  rw [hxv] at hx
  have hxl := hlt cell
  rw [hxv] at hxl
  dsimp only
  by_cases h0 : x % 4 = 0
  · rw [if_pos h0]
    exact held_0 c A n k S m l wb wo _ wk w hF cell x hx (by omega) h0 hxl
  rw [if_neg h0]
  by_cases h2 : x % 4 = 2
  · rw [if_pos h2]
    by_cases hd : c.threads * c.uses ≤ ((x / 4 : Nat) : Int)
    · rw [if_pos hd]
      exact held_2f c A n k S m l wb wo _ wk w hF cell x hx (by omega) h2 hxl (by omega)
    · rw [if_neg hd]
      rw [Int.mul_assoc] at hTU hN
      have a1 := hcells (c.cells.length + c.threads.toNat + 2 * (x / 4)) (by omega)
      have a2 := hcells (c.cells.length + c.threads.toNat + 2 * (x / 4) + 1) (by omega)
      refine held_2 c A n k S m l wb wo _ wk w h hF cell x _ _ hx hcell h2 (by omega) hxl (by rw [hn]; rw [Int.mul_assoc]; exact hN) (c.cells.length + c.threads.toNat + 2 * (x / 4)) (by omega) a1 ?_ (hlt _)
      exact a2
  rw [if_neg h2]
  by_cases h1 : x % 4 = 1
  · rw [if_pos h1]
    refine held_1 c A n k S m l wb wo _ wk w h hF cell x _ _ hx hcell h1 hxl (hlt _) (by rw [hn]; exact hN) (fun ht => ?_) (c.cells.length + c.threads.toNat + 2 * (ws.getD (c.cells.length + x / 4 % 16) 0 / 4 % 1024)) (by omega) (fun ht => ?_)
    · rw [hn]; exact hcells _ (by omega)
    · rw [Int.mul_assoc] at hTU hN
      exact hcells _ (by omega)
  rw [if_neg h1]
  exact held_3 c A n k S m l wb wo _ wk w hF cell x hx (by omega) (by omega)
end Go.Proofs.Ytgbopmgeicokoaa
