/-
  mcas.Words.
-/
import Derived.Test.YtgbopmgeicokoaaMcasCk
import Derived.Test.YtgbopmgeicokoaaMulOk
namespace Go.Proofs.Ytgbopmgeicokoaa
open Go.RowKit

theorem info_u64 : (Try.prog.info? 59).map (fun i => (i.zero, i.size, i.bytes)) = some (some (.int .u64 0), 1, 8) := by kernel_rfl
theorem info_int : (Try.prog.info? 3).map (fun i => (i.zero, i.size, i.bytes)) = some (some (.int .i64 0), 1, 8) := by kernel_rfl

theorem words_bad (c : Mul) (A : Option Addr) (n k : Nat) (S : Option Addr) (m l : Nat) (w : World) (h : MulAt w w.heap.size A n k S m l c) (hok : okB c = false) :
    Calls Try.prog 54 #[mulV c A n k S m l] w fun e w' => e = .returned (.tuple #[.slice none 0 0, .int .i64 250]) ∧ Below w.heap.size w w' := by
  have hc : chkE c = 250 := by simp [chkE, hok]
  have Hc := Lib.hid hc
  have h' := h.below ((Below.refl _ _).alloc (Nat.le_refl _) (.cells #[.int .i64 c.threads, .slice A n k, .slice S m l, .int .i64 c.uses] 33))
  have h2 := h'.up (B' := (w.alloc (.cells #[.int .i64 c.threads, .slice A n k, .slice S m l, .int .i64 c.uses] 33)).heap.size) (by simp)
  have H2 := Lib.hid h2
  clear hc hok h h' h2
  go_enter Try.func54, Try.ntmps54
  go_wp2_with (go_at_call 103; refine (check_any c A n k S m l _ H2.out).mono ?_; rw [Hc.out]; rintro e w1 ⟨rfl, hb⟩)
  go_ret2
  exact ⟨rfl, ((Below.refl _ _).alloc (Nat.le_refl _) _).trans (hb.mono (by simp))⟩

set_option maxRecDepth 100000 in
set_option maxHeartbeats 1000000 in
theorem words_ok (c : Mul) (A : Option Addr) (n k : Nat) (S : Option Addr) (m l : Nat) (w : World) (h : MulAt w w.heap.size A n k S m l c) (hok : okB c = true) :
    Calls Try.prog 54 #[mulV c A n k S m l] w fun e w' => ∃ g, e = .returned (.tuple #[.slice (some ⟨g, 0, none⟩) (nwN c) (nwN c), .int .i64 0]) ∧ Below w.heap.size w w' ∧
      w.heap.size ≤ g ∧ Blk w' g 59 (u64s (wordsOf c)) := by
  have hF := OkF.of hok
  have hc : chkE c = 0 := by simp [chkE, hok]
  have Hc := Lib.hid hc
  have hn := h.n_eq
  have hN := nwN_int hF
  have hN1 := nwN_le hF
  have hN2 := hN1.2
  have hN3 := hN1.1
  have hn2 := hF.n2
  have hT1 := hF.t1
  have hT2 := hF.t2
  have hU1 := hF.u1
  have hU2 := hF.u2
  have hTU := hF.tu2
  have hTU1 := hTU.1
  have hTU2 := hTU.2
  have hcv := hF.cv
  rw [← hn] at hN hN2 hn2
  have h' := h.below ((Below.refl _ _).alloc (Nat.le_refl _) (.cells #[.int .i64 c.threads, .slice A n k, .slice S m l, .int .i64 c.uses] 33))
  have h2 := h'.up (B' := (w.alloc (.cells #[.int .i64 c.threads, .slice A n k, .slice S m l, .int .i64 c.uses] 33)).heap.size) (by simp)
  have H2 := Lib.hid h2
  have Hn := Lib.hid hn
  generalize hNW : nwN c = N at *
  have HNW := Lib.hid hNW
  have hmk : ∀ W : World, (Instr.makeSlice 34 (.int .i64 ((n : Int) + c.threads + 2 * c.threads * c.uses)) (.int .i64 ((n : Int) + c.threads + 2 * c.threads * c.uses))).run Try.prog W = .ok (.slice (some ⟨W.heap.size, 0, none⟩) N N) (W.alloc (.cells (madeCells #[.int .u64 0] N) 59)) := by
    intro W
    rw [← hN]
    exact run_make_row' (P := Try.prog) 34 59 (.int .u64 0) 8 Try.underlying34 info_u64 rfl .i64 .i64 N (by omega) (by omega) W
  have HN := Lib.hid hN
  clear hok hc hn hN hN1 hF hTU hNW h h2
  go_enter Try.func54, Try.ntmps54
  go_wp2_with fail
  refine (check_any c A n k S m l _ H2.out).mono ?_
  rw [Hc.out]
  rintro e w1 ⟨rfl, hb⟩
  have hz : w.heap.size < w1.heap.size := by have := hb.size; simp at this; omega
  have d0 : w1.cell? ⟨w.heap.size, 0, none⟩ = some (.int .i64 c.threads) := (hb.cell (by simp)).trans (by simp)
  have d1 : w1.cell? ⟨w.heap.size, 1, none⟩ = some (.slice A n k) := (hb.cell (by simp)).trans (by simp)
  have d3 : w1.cell? ⟨w.heap.size, 3, none⟩ = some (.int .i64 c.uses) := (hb.cell (by simp)).trans (by simp)
  have h1 := h'.below (hb.mono (by simp))
  clear h' H2
  go_wp2_with fail
  have hB0 : Blk (w1.alloc (.cells (madeCells #[.int .u64 0] N) 59)) w1.heap.size 59 (u64s ((c.cells.take 0).map (4 * ·)) ++ List.replicate (N - 0) (.int .u64 0)) := by
    rw [madeCells_one]; exact Blk.new _ _ _
  have HB0 := Lib.hid hB0
  clear hB0 hmk
  go_loopg [30] n (fun g i wr => ∃ j : Nat, j + g = n ∧ i = .int .i64 j ∧ Below w1.heap.size w1 wr ∧ Hid (Blk wr w1.heap.size 59 (u64s ((c.cells.take j).map (4 * ·)) ++ List.replicate (N - j) (.int .u64 0))))
  case atStart => exact ⟨0, by omega, rfl, (Below.refl _ _).alloc (Nat.le_refl _) _, HB0.out⟩
  case round =>
    clear HB0
    obtain ⟨j, hj, rfl, hbr, HB⟩ := hrel
    by_cases hlt : j < n
    · obtain ⟨x, hx⟩ := at_lt (l := c.cells) (j := j) (by rw [← Hn.out]; exact hlt)
      have hxv := hcv x (List.mem_of_getElem? hx)
      have hx1 := hxv.1
      have hx2 := hxv.2
      obtain ⟨bb, o, rfl, hbb, hc⟩ := h1.cells.2 (by omega)
      have c0 : wr.cell? ⟨bb, o + j, none⟩ = some (.int .i64 x) := (hbr.cell (by show bb < _; omega)).trans (hc _ _ (ints_get hx))
      have hlen : (u64s ((c.cells.take j).map (4 * ·))).length = j := by
        have := Hn.out; simp [u64s]; omega
      have c1 : wr.cell? ⟨w1.heap.size, j, none⟩ = some (.int .u64 0) := HB.out.cell (by
        rw [List.getElem?_append_right (by omega), hlen, Nat.sub_self, List.getElem?_replicate, if_pos (by omega)])
      have f1 : wr.frozen? ⟨w1.heap.size, j, none⟩ = false := HB.out.frozen j
      have Hx := Lib.hid hx
      have Hlen := Lib.hid hlen
      have hjN : j < N := by omega
      clear hx hc h1 hlen hxv hcv
      go_wp2_with (go_at_call 104; refine (plain_any x hx1 hx2 _).mono ?_; rintro e w2 ⟨rfl, rfl⟩)
      go_roundg (gk - 1)
      case measure => omega
      case rel =>
        refine ⟨j + 1, by omega, by go_num, hbr.setCell (p := ⟨w1.heap.size, j, none⟩) (Nat.le_refl _) _, ?_⟩
        unfold Hid
        have hs := HB.out.set_ j (.int .u64 (4 * x))
        rw [set_fill Hlen.out hjN] at hs
        rw [take_snoc Hx.out, List.map_append]
        unfold u64s at hs ⊢
        rw [List.map_append]
        exact hs
    · obtain rfl : n = j := by omega
      go_wp2_with fail
      go_ret2
      refine ⟨_, rfl, ?_, ?_, ?_⟩
      · exact (((Below.refl _ _).alloc (Nat.le_refl _) _).trans (hb.mono (by simp))).trans (hbr.mono (by omega))
      · omega
      · have hB := HB.out
        rw [Hn.out, List.take_length] at hB
        unfold wordsOf u64s
        rw [HNW.out, List.map_append, List.map_replicate, ← Hn.out]
        rw [← Hn.out] at hB
        exact hB
end Go.Proofs.Ytgbopmgeicokoaa
