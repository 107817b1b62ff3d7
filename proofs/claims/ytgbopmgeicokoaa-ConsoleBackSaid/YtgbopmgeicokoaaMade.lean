/-
  reclaimref28.Made.
-/
import Derived.Test.YtgbopmgeicokoaaSames
import Derived.Test.YtgbopmgeicokoaaCop
import Derived.StillTailTactics
import Derived.BigQuiet
namespace Go.Proofs.Ytgbopmgeicokoaa
open Go.RowKit

def MadR (s : Ses) (w : World) (e : Ending) (w' : World) : Prop := e = .returned (sesV s (.slice none 0 0)) ∧ Below w.heap.size w w'

set_option maxRecDepth 100000 in
set_option maxHeartbeats 4000000 in
theorem made1_any (b o k : Nat) (a0 a1 a2 a3 a4 a5 a6 : Nat) (w : World) (hb : b < w.heap.size) (x0 : w.cell? ⟨b, o, none⟩ = some (.int .i64 a0)) (x1 : w.cell? ⟨b, o + 1, none⟩ = some (.int .i64 a1)) (x2 : w.cell? ⟨b, o + 2, none⟩ = some (.int .i64 a2)) (x3 : w.cell? ⟨b, o + 3, none⟩ = some (.int .i64 a3)) (x4 : w.cell? ⟨b, o + 4, none⟩ = some (.int .i64 a4)) (x5 : w.cell? ⟨b, o + 5, none⟩ = some (.int .i64 a5)) (x6 : w.cell? ⟨b, o + 6, none⟩ = some (.int .i64 a6)) :
    Calls Try.prog 86 #[.int .i64 1, .slice (some ⟨b, o, none⟩) 7 k] w (MadR (madeS 1 [a0, a1, a2, a3, a4, a5, a6]) w) := by
  have HB : Hid (Below w.heap.size w ((w.alloc (.cells #[.int .i64 0, .int .i64 0, .int .i64 0, .int .i64 0, .int .i64 0, .int .i64 0, .int .i64 0, .int .i64 0, .int .i64 0, .int .i64 0, .int .i64 0, .int .i64 0, .int .i64 0, .int .i64 0, .int .i64 0, .int .i64 0, .slice none 0 0] 76)).alloc (.cells #[.int .i64 1, .int .i64 0, .int .i64 0, .int .i64 0, .int .i64 0, .int .i64 0, .int .i64 0, .int .i64 0, .int .i64 0, .int .i64 0, .int .i64 0, .int .i64 0, .int .i64 0, .int .i64 0, .int .i64 0, .int .i64 0, .slice none 0 0] 76))) := ((Below.refl _ _).alloc (Nat.le_refl _) _).alloc (by simp) _
  have HS : Hid (Blk ((w.alloc (.cells #[.int .i64 0, .int .i64 0, .int .i64 0, .int .i64 0, .int .i64 0, .int .i64 0, .int .i64 0, .int .i64 0, .int .i64 0, .int .i64 0, .int .i64 0, .int .i64 0, .int .i64 0, .int .i64 0, .int .i64 0, .int .i64 0, .slice none 0 0] 76)).alloc (.cells #[.int .i64 1, .int .i64 0, .int .i64 0, .int .i64 0, .int .i64 0, .int .i64 0, .int .i64 0, .int .i64 0, .int .i64 0, .int .i64 0, .int .i64 0, .int .i64 0, .int .i64 0, .int .i64 0, .int .i64 0, .int .i64 0, .slice none 0 0] 76)) (w.heap.size + 1) 76 [.int .i64 1, .int .i64 0, .int .i64 0, .int .i64 0, .int .i64 0, .int .i64 0, .int .i64 0, .int .i64 0, .int .i64 0, .int .i64 0, .int .i64 0, .int .i64 0, .int .i64 0, .int .i64 0, .int .i64 0, .int .i64 0, .slice none 0 0]) := by
    have h9 := Blk.new (w.alloc (.cells #[.int .i64 0, .int .i64 0, .int .i64 0, .int .i64 0, .int .i64 0, .int .i64 0, .int .i64 0, .int .i64 0, .int .i64 0, .int .i64 0, .int .i64 0, .int .i64 0, .int .i64 0, .int .i64 0, .int .i64 0, .int .i64 0, .slice none 0 0] 76)) 76 [.int .i64 1, .int .i64 0, .int .i64 0, .int .i64 0, .int .i64 0, .int .i64 0, .int .i64 0, .int .i64 0, .int .i64 0, .int .i64 0, .int .i64 0, .int .i64 0, .int .i64 0, .int .i64 0, .int .i64 0, .int .i64 0, .slice none 0 0]
    rw [World.size_alloc] at h9
    exact h9
  have HZ : Hid (Blk ((w.alloc (.cells #[.int .i64 0, .int .i64 0, .int .i64 0, .int .i64 0, .int .i64 0, .int .i64 0, .int .i64 0, .int .i64 0, .int .i64 0, .int .i64 0, .int .i64 0, .int .i64 0, .int .i64 0, .int .i64 0, .int .i64 0, .int .i64 0, .slice none 0 0] 76)).alloc (.cells #[.int .i64 1, .int .i64 0, .int .i64 0, .int .i64 0, .int .i64 0, .int .i64 0, .int .i64 0, .int .i64 0, .int .i64 0, .int .i64 0, .int .i64 0, .int .i64 0, .int .i64 0, .int .i64 0, .int .i64 0, .int .i64 0, .slice none 0 0] 76)) w.heap.size 76 [.int .i64 0, .int .i64 0, .int .i64 0, .int .i64 0, .int .i64 0, .int .i64 0, .int .i64 0, .int .i64 0, .int .i64 0, .int .i64 0, .int .i64 0, .int .i64 0, .int .i64 0, .int .i64 0, .int .i64 0, .int .i64 0, .slice none 0 0]) := (Blk.new w 76 [.int .i64 0, .int .i64 0, .int .i64 0, .int .i64 0, .int .i64 0, .int .i64 0, .int .i64 0, .int .i64 0, .int .i64 0, .int .i64 0, .int .i64 0, .int .i64 0, .int .i64 0, .int .i64 0, .int .i64 0, .int .i64 0, .slice none 0 0]).alloc _
  go_enter Try.func86, Try.ntmps86
  go_upto_region 5 with fail
  generalize (w.alloc (.cells #[.int .i64 0, .int .i64 0, .int .i64 0, .int .i64 0, .int .i64 0, .int .i64 0, .int .i64 0, .int .i64 0, .int .i64 0, .int .i64 0, .int .i64 0, .int .i64 0, .int .i64 0, .int .i64 0, .int .i64 0, .int .i64 0, .slice none 0 0] 76)).alloc (.cells #[.int .i64 1, .int .i64 0, .int .i64 0, .int .i64 0, .int .i64 0, .int .i64 0, .int .i64 0, .int .i64 0, .int .i64 0, .int .i64 0, .int .i64 0, .int .i64 0, .int .i64 0, .int .i64 0, .int .i64 0, .int .i64 0, .slice none 0 0] 76) = W at HB HS HZ ⊢
  have x0' := (HB.out.cell (p := ⟨b, o, none⟩) hb).trans x0
  have x1' := (HB.out.cell (p := ⟨b, o + 1, none⟩) hb).trans x1
  have x2' := (HB.out.cell (p := ⟨b, o + 2, none⟩) hb).trans x2
  have x3' := (HB.out.cell (p := ⟨b, o + 3, none⟩) hb).trans x3
  have x4' := (HB.out.cell (p := ⟨b, o + 4, none⟩) hb).trans x4
  have x5' := (HB.out.cell (p := ⟨b, o + 5, none⟩) hb).trans x5
  have x6' := (HB.out.cell (p := ⟨b, o + 6, none⟩) hb).trans x6
  clear x0 x1 x2 x3 x4 x5 x6
  have HS2 : Hid (Blk W.drew (w.heap.size + 1) 76 [.int .i64 1, .int .i64 0, .int .i64 0, .int .i64 0, .int .i64 0, .int .i64 0, .int .i64 0, .int .i64 0, .int .i64 0, .int .i64 0, .int .i64 0, .int .i64 0, .int .i64 0, .int .i64 0, .int .i64 0, .int .i64 0, .slice none 0 0]) := HS.out
  have HZ2 : Hid (Blk W.drew w.heap.size 76 [.int .i64 0, .int .i64 0, .int .i64 0, .int .i64 0, .int .i64 0, .int .i64 0, .int .i64 0, .int .i64 0, .int .i64 0, .int .i64 0, .int .i64 0, .int .i64 0, .int .i64 0, .int .i64 0, .int .i64 0, .int .i64 0, .slice none 0 0]) := HZ.out
  have HB2 : Hid (Below w.heap.size w W.drew) := HB.out.drew
  go_still_tail 23, (by kernel_rfl)
  change wpList _ _ _ _ _ W.drew
  generalize W.drew = W2 at HS2 HZ2 HB2 ⊢
  have f0 := HS2.out.frozen 1
  have c0 : W2.cell? ⟨w.heap.size + 1, 1, none⟩ = some (.int .i64 0) := HS2.out.cell rfl
  have f1 := HS2.out.frozen 2
  have c1 : W2.cell? ⟨w.heap.size + 1, 2, none⟩ = some (.int .i64 0) := HS2.out.cell rfl
  have f2 := HS2.out.frozen 3
  have c2 : W2.cell? ⟨w.heap.size + 1, 3, none⟩ = some (.int .i64 0) := HS2.out.cell rfl
  have f3 := HS2.out.frozen 4
  have c3 : W2.cell? ⟨w.heap.size + 1, 4, none⟩ = some (.int .i64 0) := HS2.out.cell rfl
  have f4 := HS2.out.frozen 5
  have c4 : W2.cell? ⟨w.heap.size + 1, 5, none⟩ = some (.int .i64 0) := HS2.out.cell rfl
  have f5 := HS2.out.frozen 6
  have c5 : W2.cell? ⟨w.heap.size + 1, 6, none⟩ = some (.int .i64 0) := HS2.out.cell rfl
  have f6 := HS2.out.frozen 7
  have c6 : W2.cell? ⟨w.heap.size + 1, 7, none⟩ = some (.int .i64 0) := HS2.out.cell rfl
  go_upto_region 14 with fail
  have HR : Blk ((((((((W2).setCell ⟨w.heap.size + 1, 1, none⟩ (.int .i64 a0)).setCell ⟨w.heap.size + 1, 2, none⟩ (.int .i64 a1)).setCell ⟨w.heap.size + 1, 3, none⟩ (.int .i64 a2)).setCell ⟨w.heap.size + 1, 4, none⟩ (.int .i64 a3)).setCell ⟨w.heap.size + 1, 5, none⟩ (.int .i64 a4)).setCell ⟨w.heap.size + 1, 6, none⟩ (.int .i64 a5)).setCell ⟨w.heap.size + 1, 7, none⟩ (.int .i64 a6)) (w.heap.size + 1) 76 [.int .i64 1, .int .i64 a0, .int .i64 a1, .int .i64 a2, .int .i64 a3, .int .i64 a4, .int .i64 a5, .int .i64 a6, .int .i64 0, .int .i64 0, .int .i64 0, .int .i64 0, .int .i64 0, .int .i64 0, .int .i64 0, .int .i64 0, .slice none 0 0] := (((((((HS2.out).set_ 1 _).set_ 2 _).set_ 3 _).set_ 4 _).set_ 5 _).set_ 6 _).set_ 7 _
  have HZ3 : Blk ((((((((W2).setCell ⟨w.heap.size + 1, 1, none⟩ (.int .i64 a0)).setCell ⟨w.heap.size + 1, 2, none⟩ (.int .i64 a1)).setCell ⟨w.heap.size + 1, 3, none⟩ (.int .i64 a2)).setCell ⟨w.heap.size + 1, 4, none⟩ (.int .i64 a3)).setCell ⟨w.heap.size + 1, 5, none⟩ (.int .i64 a4)).setCell ⟨w.heap.size + 1, 6, none⟩ (.int .i64 a5)).setCell ⟨w.heap.size + 1, 7, none⟩ (.int .i64 a6)) w.heap.size 76 [.int .i64 0, .int .i64 0, .int .i64 0, .int .i64 0, .int .i64 0, .int .i64 0, .int .i64 0, .int .i64 0, .int .i64 0, .int .i64 0, .int .i64 0, .int .i64 0, .int .i64 0, .int .i64 0, .int .i64 0, .int .i64 0, .slice none 0 0] := (((((((HZ2.out).far (by simp) _).far (by simp) _).far (by simp) _).far (by simp) _).far (by simp) _).far (by simp) _).far (by simp) _
  have HB3 : Below w.heap.size w ((((((((W2).setCell ⟨w.heap.size + 1, 1, none⟩ (.int .i64 a0)).setCell ⟨w.heap.size + 1, 2, none⟩ (.int .i64 a1)).setCell ⟨w.heap.size + 1, 3, none⟩ (.int .i64 a2)).setCell ⟨w.heap.size + 1, 4, none⟩ (.int .i64 a3)).setCell ⟨w.heap.size + 1, 5, none⟩ (.int .i64 a4)).setCell ⟨w.heap.size + 1, 6, none⟩ (.int .i64 a5)).setCell ⟨w.heap.size + 1, 7, none⟩ (.int .i64 a6)) := (((((((HB2.out).setCell (p := ⟨w.heap.size + 1, 1, none⟩) (by dsimp only; omega) _).setCell (p := ⟨w.heap.size + 1, 2, none⟩) (by dsimp only; omega) _).setCell (p := ⟨w.heap.size + 1, 3, none⟩) (by dsimp only; omega) _).setCell (p := ⟨w.heap.size + 1, 4, none⟩) (by dsimp only; omega) _).setCell (p := ⟨w.heap.size + 1, 5, none⟩) (by dsimp only; omega) _).setCell (p := ⟨w.heap.size + 1, 6, none⟩) (by dsimp only; omega) _).setCell (p := ⟨w.heap.size + 1, 7, none⟩) (by dsimp only; omega) _
  refine wp_region_lit ?_
  refine wpList_load_row rfl _ _ rfl (w.heap.size + 1) rfl 76 _ (0, 0) _ HR Try.underlying76 rfl size_ses ?_
  refine wpList_store_row rfl _ _ _ rfl w.heap.size _ rfl rfl _ _ HZ3 size_ses rfl (by simp [Value.oneCell']) ?_
  have HF := setRow_heap ((((((((W2).setCell ⟨w.heap.size + 1, 1, none⟩ (.int .i64 a0)).setCell ⟨w.heap.size + 1, 2, none⟩ (.int .i64 a1)).setCell ⟨w.heap.size + 1, 3, none⟩ (.int .i64 a2)).setCell ⟨w.heap.size + 1, 4, none⟩ (.int .i64 a3)).setCell ⟨w.heap.size + 1, 5, none⟩ (.int .i64 a4)).setCell ⟨w.heap.size + 1, 6, none⟩ (.int .i64 a5)).setCell ⟨w.heap.size + 1, 7, none⟩ (.int .i64 a6)) w.heap.size _ ([.int .i64 1, .int .i64 a0, .int .i64 a1, .int .i64 a2, .int .i64 a3, .int .i64 a4, .int .i64 a5, .int .i64 a6, .int .i64 0, .int .i64 0, .int .i64 0, .int .i64 0, .int .i64 0, .int .i64 0, .int .i64 0, .int .i64 0, .slice none 0 0]).toArray _ _ HZ3
  have HB4 : Below w.heap.size w (((((((((W2).setCell ⟨w.heap.size + 1, 1, none⟩ (.int .i64 a0)).setCell ⟨w.heap.size + 1, 2, none⟩ (.int .i64 a1)).setCell ⟨w.heap.size + 1, 3, none⟩ (.int .i64 a2)).setCell ⟨w.heap.size + 1, 4, none⟩ (.int .i64 a3)).setCell ⟨w.heap.size + 1, 5, none⟩ (.int .i64 a4)).setCell ⟨w.heap.size + 1, 6, none⟩ (.int .i64 a5)).setCell ⟨w.heap.size + 1, 7, none⟩ (.int .i64 a6)).setRow w.heap.size ([.int .i64 1, .int .i64 a0, .int .i64 a1, .int .i64 a2, .int .i64 a3, .int .i64 a4, .int .i64 a5, .int .i64 a6, .int .i64 0, .int .i64 0, .int .i64 0, .int .i64 0, .int .i64 0, .int .i64 0, .int .i64 0, .int .i64 0, .slice none 0 0]).toArray) := below_row HB3 (Nat.le_refl _)
  clear HR HZ3 HB3
  go_wp2_with fail
  refine bodyPost_ret_by (results_cell_row rfl _ _ w.heap.size 76 _ (0, 0) _ rfl HF Try.underlying76 rfl size_ses) rfl ?_
  exact ⟨rfl, HB4⟩

set_option maxRecDepth 100000 in
set_option maxHeartbeats 4000000 in
theorem made2_any (b o k : Nat) (a0 a1 a2 a3 a4 a5 a6 : Nat) (w : World) (hb : b < w.heap.size) (x0 : w.cell? ⟨b, o, none⟩ = some (.int .i64 a0)) (x1 : w.cell? ⟨b, o + 1, none⟩ = some (.int .i64 a1)) (x2 : w.cell? ⟨b, o + 2, none⟩ = some (.int .i64 a2)) (x3 : w.cell? ⟨b, o + 3, none⟩ = some (.int .i64 a3)) (x4 : w.cell? ⟨b, o + 4, none⟩ = some (.int .i64 a4)) (x5 : w.cell? ⟨b, o + 5, none⟩ = some (.int .i64 a5)) (x6 : w.cell? ⟨b, o + 6, none⟩ = some (.int .i64 a6)) :
    Calls Try.prog 86 #[.int .i64 2, .slice (some ⟨b, o, none⟩) 7 k] w (MadR (madeS 2 [a0, a1, a2, a3, a4, a5, a6]) w) := by
  have HB : Hid (Below w.heap.size w ((w.alloc (.cells #[.int .i64 0, .int .i64 0, .int .i64 0, .int .i64 0, .int .i64 0, .int .i64 0, .int .i64 0, .int .i64 0, .int .i64 0, .int .i64 0, .int .i64 0, .int .i64 0, .int .i64 0, .int .i64 0, .int .i64 0, .int .i64 0, .slice none 0 0] 76)).alloc (.cells #[.int .i64 2, .int .i64 0, .int .i64 0, .int .i64 0, .int .i64 0, .int .i64 0, .int .i64 0, .int .i64 0, .int .i64 0, .int .i64 0, .int .i64 0, .int .i64 0, .int .i64 0, .int .i64 0, .int .i64 0, .int .i64 0, .slice none 0 0] 76))) := ((Below.refl _ _).alloc (Nat.le_refl _) _).alloc (by simp) _
  have HS : Hid (Blk ((w.alloc (.cells #[.int .i64 0, .int .i64 0, .int .i64 0, .int .i64 0, .int .i64 0, .int .i64 0, .int .i64 0, .int .i64 0, .int .i64 0, .int .i64 0, .int .i64 0, .int .i64 0, .int .i64 0, .int .i64 0, .int .i64 0, .int .i64 0, .slice none 0 0] 76)).alloc (.cells #[.int .i64 2, .int .i64 0, .int .i64 0, .int .i64 0, .int .i64 0, .int .i64 0, .int .i64 0, .int .i64 0, .int .i64 0, .int .i64 0, .int .i64 0, .int .i64 0, .int .i64 0, .int .i64 0, .int .i64 0, .int .i64 0, .slice none 0 0] 76)) (w.heap.size + 1) 76 [.int .i64 2, .int .i64 0, .int .i64 0, .int .i64 0, .int .i64 0, .int .i64 0, .int .i64 0, .int .i64 0, .int .i64 0, .int .i64 0, .int .i64 0, .int .i64 0, .int .i64 0, .int .i64 0, .int .i64 0, .int .i64 0, .slice none 0 0]) := by
    have h9 := Blk.new (w.alloc (.cells #[.int .i64 0, .int .i64 0, .int .i64 0, .int .i64 0, .int .i64 0, .int .i64 0, .int .i64 0, .int .i64 0, .int .i64 0, .int .i64 0, .int .i64 0, .int .i64 0, .int .i64 0, .int .i64 0, .int .i64 0, .int .i64 0, .slice none 0 0] 76)) 76 [.int .i64 2, .int .i64 0, .int .i64 0, .int .i64 0, .int .i64 0, .int .i64 0, .int .i64 0, .int .i64 0, .int .i64 0, .int .i64 0, .int .i64 0, .int .i64 0, .int .i64 0, .int .i64 0, .int .i64 0, .int .i64 0, .slice none 0 0]
    rw [World.size_alloc] at h9
    exact h9
  have HZ : Hid (Blk ((w.alloc (.cells #[.int .i64 0, .int .i64 0, .int .i64 0, .int .i64 0, .int .i64 0, .int .i64 0, .int .i64 0, .int .i64 0, .int .i64 0, .int .i64 0, .int .i64 0, .int .i64 0, .int .i64 0, .int .i64 0, .int .i64 0, .int .i64 0, .slice none 0 0] 76)).alloc (.cells #[.int .i64 2, .int .i64 0, .int .i64 0, .int .i64 0, .int .i64 0, .int .i64 0, .int .i64 0, .int .i64 0, .int .i64 0, .int .i64 0, .int .i64 0, .int .i64 0, .int .i64 0, .int .i64 0, .int .i64 0, .int .i64 0, .slice none 0 0] 76)) w.heap.size 76 [.int .i64 0, .int .i64 0, .int .i64 0, .int .i64 0, .int .i64 0, .int .i64 0, .int .i64 0, .int .i64 0, .int .i64 0, .int .i64 0, .int .i64 0, .int .i64 0, .int .i64 0, .int .i64 0, .int .i64 0, .int .i64 0, .slice none 0 0]) := (Blk.new w 76 [.int .i64 0, .int .i64 0, .int .i64 0, .int .i64 0, .int .i64 0, .int .i64 0, .int .i64 0, .int .i64 0, .int .i64 0, .int .i64 0, .int .i64 0, .int .i64 0, .int .i64 0, .int .i64 0, .int .i64 0, .int .i64 0, .slice none 0 0]).alloc _
  go_enter Try.func86, Try.ntmps86
  go_upto_region 5 with fail
  generalize (w.alloc (.cells #[.int .i64 0, .int .i64 0, .int .i64 0, .int .i64 0, .int .i64 0, .int .i64 0, .int .i64 0, .int .i64 0, .int .i64 0, .int .i64 0, .int .i64 0, .int .i64 0, .int .i64 0, .int .i64 0, .int .i64 0, .int .i64 0, .slice none 0 0] 76)).alloc (.cells #[.int .i64 2, .int .i64 0, .int .i64 0, .int .i64 0, .int .i64 0, .int .i64 0, .int .i64 0, .int .i64 0, .int .i64 0, .int .i64 0, .int .i64 0, .int .i64 0, .int .i64 0, .int .i64 0, .int .i64 0, .int .i64 0, .slice none 0 0] 76) = W at HB HS HZ ⊢
  have x0' := (HB.out.cell (p := ⟨b, o, none⟩) hb).trans x0
  have x1' := (HB.out.cell (p := ⟨b, o + 1, none⟩) hb).trans x1
  have x2' := (HB.out.cell (p := ⟨b, o + 2, none⟩) hb).trans x2
  have x3' := (HB.out.cell (p := ⟨b, o + 3, none⟩) hb).trans x3
  have x4' := (HB.out.cell (p := ⟨b, o + 4, none⟩) hb).trans x4
  have x5' := (HB.out.cell (p := ⟨b, o + 5, none⟩) hb).trans x5
  have x6' := (HB.out.cell (p := ⟨b, o + 6, none⟩) hb).trans x6
  clear x0 x1 x2 x3 x4 x5 x6
  have HS2 : Hid (Blk W.drew (w.heap.size + 1) 76 [.int .i64 2, .int .i64 0, .int .i64 0, .int .i64 0, .int .i64 0, .int .i64 0, .int .i64 0, .int .i64 0, .int .i64 0, .int .i64 0, .int .i64 0, .int .i64 0, .int .i64 0, .int .i64 0, .int .i64 0, .int .i64 0, .slice none 0 0]) := HS.out
  have HZ2 : Hid (Blk W.drew w.heap.size 76 [.int .i64 0, .int .i64 0, .int .i64 0, .int .i64 0, .int .i64 0, .int .i64 0, .int .i64 0, .int .i64 0, .int .i64 0, .int .i64 0, .int .i64 0, .int .i64 0, .int .i64 0, .int .i64 0, .int .i64 0, .int .i64 0, .slice none 0 0]) := HZ.out
  have HB2 : Hid (Below w.heap.size w W.drew) := HB.out.drew
  go_still_tail 23, (by kernel_rfl)
  change wpList _ _ _ _ _ W.drew
  generalize W.drew = W2 at HS2 HZ2 HB2 ⊢
  have f0 := HS2.out.frozen 1
  have c0 : W2.cell? ⟨w.heap.size + 1, 1, none⟩ = some (.int .i64 0) := HS2.out.cell rfl
  have f1 := HS2.out.frozen 2
  have c1 : W2.cell? ⟨w.heap.size + 1, 2, none⟩ = some (.int .i64 0) := HS2.out.cell rfl
  have f2 := HS2.out.frozen 3
  have c2 : W2.cell? ⟨w.heap.size + 1, 3, none⟩ = some (.int .i64 0) := HS2.out.cell rfl
  have f3 := HS2.out.frozen 4
  have c3 : W2.cell? ⟨w.heap.size + 1, 4, none⟩ = some (.int .i64 0) := HS2.out.cell rfl
  have f4 := HS2.out.frozen 5
  have c4 : W2.cell? ⟨w.heap.size + 1, 5, none⟩ = some (.int .i64 0) := HS2.out.cell rfl
  have f5 := HS2.out.frozen 6
  have c5 : W2.cell? ⟨w.heap.size + 1, 6, none⟩ = some (.int .i64 0) := HS2.out.cell rfl
  have f6 := HS2.out.frozen 7
  have c6 : W2.cell? ⟨w.heap.size + 1, 7, none⟩ = some (.int .i64 0) := HS2.out.cell rfl
  go_upto_region 14 with fail
  have HR : Blk ((((((((W2).setCell ⟨w.heap.size + 1, 1, none⟩ (.int .i64 a0)).setCell ⟨w.heap.size + 1, 2, none⟩ (.int .i64 a1)).setCell ⟨w.heap.size + 1, 3, none⟩ (.int .i64 a2)).setCell ⟨w.heap.size + 1, 4, none⟩ (.int .i64 a3)).setCell ⟨w.heap.size + 1, 5, none⟩ (.int .i64 a4)).setCell ⟨w.heap.size + 1, 6, none⟩ (.int .i64 a5)).setCell ⟨w.heap.size + 1, 7, none⟩ (.int .i64 a6)) (w.heap.size + 1) 76 [.int .i64 2, .int .i64 a0, .int .i64 a1, .int .i64 a2, .int .i64 a3, .int .i64 a4, .int .i64 a5, .int .i64 a6, .int .i64 0, .int .i64 0, .int .i64 0, .int .i64 0, .int .i64 0, .int .i64 0, .int .i64 0, .int .i64 0, .slice none 0 0] := (((((((HS2.out).set_ 1 _).set_ 2 _).set_ 3 _).set_ 4 _).set_ 5 _).set_ 6 _).set_ 7 _
  have HZ3 : Blk ((((((((W2).setCell ⟨w.heap.size + 1, 1, none⟩ (.int .i64 a0)).setCell ⟨w.heap.size + 1, 2, none⟩ (.int .i64 a1)).setCell ⟨w.heap.size + 1, 3, none⟩ (.int .i64 a2)).setCell ⟨w.heap.size + 1, 4, none⟩ (.int .i64 a3)).setCell ⟨w.heap.size + 1, 5, none⟩ (.int .i64 a4)).setCell ⟨w.heap.size + 1, 6, none⟩ (.int .i64 a5)).setCell ⟨w.heap.size + 1, 7, none⟩ (.int .i64 a6)) w.heap.size 76 [.int .i64 0, .int .i64 0, .int .i64 0, .int .i64 0, .int .i64 0, .int .i64 0, .int .i64 0, .int .i64 0, .int .i64 0, .int .i64 0, .int .i64 0, .int .i64 0, .int .i64 0, .int .i64 0, .int .i64 0, .int .i64 0, .slice none 0 0] := (((((((HZ2.out).far (by simp) _).far (by simp) _).far (by simp) _).far (by simp) _).far (by simp) _).far (by simp) _).far (by simp) _
  have HB3 : Below w.heap.size w ((((((((W2).setCell ⟨w.heap.size + 1, 1, none⟩ (.int .i64 a0)).setCell ⟨w.heap.size + 1, 2, none⟩ (.int .i64 a1)).setCell ⟨w.heap.size + 1, 3, none⟩ (.int .i64 a2)).setCell ⟨w.heap.size + 1, 4, none⟩ (.int .i64 a3)).setCell ⟨w.heap.size + 1, 5, none⟩ (.int .i64 a4)).setCell ⟨w.heap.size + 1, 6, none⟩ (.int .i64 a5)).setCell ⟨w.heap.size + 1, 7, none⟩ (.int .i64 a6)) := (((((((HB2.out).setCell (p := ⟨w.heap.size + 1, 1, none⟩) (by dsimp only; omega) _).setCell (p := ⟨w.heap.size + 1, 2, none⟩) (by dsimp only; omega) _).setCell (p := ⟨w.heap.size + 1, 3, none⟩) (by dsimp only; omega) _).setCell (p := ⟨w.heap.size + 1, 4, none⟩) (by dsimp only; omega) _).setCell (p := ⟨w.heap.size + 1, 5, none⟩) (by dsimp only; omega) _).setCell (p := ⟨w.heap.size + 1, 6, none⟩) (by dsimp only; omega) _).setCell (p := ⟨w.heap.size + 1, 7, none⟩) (by dsimp only; omega) _
  refine wp_region_lit ?_
  refine wpList_load_row rfl _ _ rfl (w.heap.size + 1) rfl 76 _ (0, 0) _ HR Try.underlying76 rfl size_ses ?_
  refine wpList_store_row rfl _ _ _ rfl w.heap.size _ rfl rfl _ _ HZ3 size_ses rfl (by simp [Value.oneCell']) ?_
  have HF := setRow_heap ((((((((W2).setCell ⟨w.heap.size + 1, 1, none⟩ (.int .i64 a0)).setCell ⟨w.heap.size + 1, 2, none⟩ (.int .i64 a1)).setCell ⟨w.heap.size + 1, 3, none⟩ (.int .i64 a2)).setCell ⟨w.heap.size + 1, 4, none⟩ (.int .i64 a3)).setCell ⟨w.heap.size + 1, 5, none⟩ (.int .i64 a4)).setCell ⟨w.heap.size + 1, 6, none⟩ (.int .i64 a5)).setCell ⟨w.heap.size + 1, 7, none⟩ (.int .i64 a6)) w.heap.size _ ([.int .i64 2, .int .i64 a0, .int .i64 a1, .int .i64 a2, .int .i64 a3, .int .i64 a4, .int .i64 a5, .int .i64 a6, .int .i64 0, .int .i64 0, .int .i64 0, .int .i64 0, .int .i64 0, .int .i64 0, .int .i64 0, .int .i64 0, .slice none 0 0]).toArray _ _ HZ3
  have HB4 : Below w.heap.size w (((((((((W2).setCell ⟨w.heap.size + 1, 1, none⟩ (.int .i64 a0)).setCell ⟨w.heap.size + 1, 2, none⟩ (.int .i64 a1)).setCell ⟨w.heap.size + 1, 3, none⟩ (.int .i64 a2)).setCell ⟨w.heap.size + 1, 4, none⟩ (.int .i64 a3)).setCell ⟨w.heap.size + 1, 5, none⟩ (.int .i64 a4)).setCell ⟨w.heap.size + 1, 6, none⟩ (.int .i64 a5)).setCell ⟨w.heap.size + 1, 7, none⟩ (.int .i64 a6)).setRow w.heap.size ([.int .i64 2, .int .i64 a0, .int .i64 a1, .int .i64 a2, .int .i64 a3, .int .i64 a4, .int .i64 a5, .int .i64 a6, .int .i64 0, .int .i64 0, .int .i64 0, .int .i64 0, .int .i64 0, .int .i64 0, .int .i64 0, .int .i64 0, .slice none 0 0]).toArray) := below_row HB3 (Nat.le_refl _)
  clear HR HZ3 HB3
  go_wp2_with fail
  refine bodyPost_ret_by (results_cell_row rfl _ _ w.heap.size 76 _ (0, 0) _ rfl HF Try.underlying76 rfl size_ses) rfl ?_
  exact ⟨rfl, HB4⟩

set_option maxRecDepth 100000 in
set_option maxHeartbeats 4000000 in
theorem made3_any (b o k : Nat) (a0 a1 : Nat) (w : World) (hb : b < w.heap.size) (x0 : w.cell? ⟨b, o, none⟩ = some (.int .i64 a0)) (x1 : w.cell? ⟨b, o + 1, none⟩ = some (.int .i64 a1)) :
    Calls Try.prog 86 #[.int .i64 3, .slice (some ⟨b, o, none⟩) 2 k] w (MadR (madeS 3 [a0, a1]) w) := by
  have HB : Hid (Below w.heap.size w ((w.alloc (.cells #[.int .i64 0, .int .i64 0, .int .i64 0, .int .i64 0, .int .i64 0, .int .i64 0, .int .i64 0, .int .i64 0, .int .i64 0, .int .i64 0, .int .i64 0, .int .i64 0, .int .i64 0, .int .i64 0, .int .i64 0, .int .i64 0, .slice none 0 0] 76)).alloc (.cells #[.int .i64 3, .int .i64 0, .int .i64 0, .int .i64 0, .int .i64 0, .int .i64 0, .int .i64 0, .int .i64 0, .int .i64 0, .int .i64 0, .int .i64 0, .int .i64 0, .int .i64 0, .int .i64 0, .int .i64 0, .int .i64 0, .slice none 0 0] 76))) := ((Below.refl _ _).alloc (Nat.le_refl _) _).alloc (by simp) _
  have HS : Hid (Blk ((w.alloc (.cells #[.int .i64 0, .int .i64 0, .int .i64 0, .int .i64 0, .int .i64 0, .int .i64 0, .int .i64 0, .int .i64 0, .int .i64 0, .int .i64 0, .int .i64 0, .int .i64 0, .int .i64 0, .int .i64 0, .int .i64 0, .int .i64 0, .slice none 0 0] 76)).alloc (.cells #[.int .i64 3, .int .i64 0, .int .i64 0, .int .i64 0, .int .i64 0, .int .i64 0, .int .i64 0, .int .i64 0, .int .i64 0, .int .i64 0, .int .i64 0, .int .i64 0, .int .i64 0, .int .i64 0, .int .i64 0, .int .i64 0, .slice none 0 0] 76)) (w.heap.size + 1) 76 [.int .i64 3, .int .i64 0, .int .i64 0, .int .i64 0, .int .i64 0, .int .i64 0, .int .i64 0, .int .i64 0, .int .i64 0, .int .i64 0, .int .i64 0, .int .i64 0, .int .i64 0, .int .i64 0, .int .i64 0, .int .i64 0, .slice none 0 0]) := by
    have h9 := Blk.new (w.alloc (.cells #[.int .i64 0, .int .i64 0, .int .i64 0, .int .i64 0, .int .i64 0, .int .i64 0, .int .i64 0, .int .i64 0, .int .i64 0, .int .i64 0, .int .i64 0, .int .i64 0, .int .i64 0, .int .i64 0, .int .i64 0, .int .i64 0, .slice none 0 0] 76)) 76 [.int .i64 3, .int .i64 0, .int .i64 0, .int .i64 0, .int .i64 0, .int .i64 0, .int .i64 0, .int .i64 0, .int .i64 0, .int .i64 0, .int .i64 0, .int .i64 0, .int .i64 0, .int .i64 0, .int .i64 0, .int .i64 0, .slice none 0 0]
    rw [World.size_alloc] at h9
    exact h9
  have HZ : Hid (Blk ((w.alloc (.cells #[.int .i64 0, .int .i64 0, .int .i64 0, .int .i64 0, .int .i64 0, .int .i64 0, .int .i64 0, .int .i64 0, .int .i64 0, .int .i64 0, .int .i64 0, .int .i64 0, .int .i64 0, .int .i64 0, .int .i64 0, .int .i64 0, .slice none 0 0] 76)).alloc (.cells #[.int .i64 3, .int .i64 0, .int .i64 0, .int .i64 0, .int .i64 0, .int .i64 0, .int .i64 0, .int .i64 0, .int .i64 0, .int .i64 0, .int .i64 0, .int .i64 0, .int .i64 0, .int .i64 0, .int .i64 0, .int .i64 0, .slice none 0 0] 76)) w.heap.size 76 [.int .i64 0, .int .i64 0, .int .i64 0, .int .i64 0, .int .i64 0, .int .i64 0, .int .i64 0, .int .i64 0, .int .i64 0, .int .i64 0, .int .i64 0, .int .i64 0, .int .i64 0, .int .i64 0, .int .i64 0, .int .i64 0, .slice none 0 0]) := (Blk.new w 76 [.int .i64 0, .int .i64 0, .int .i64 0, .int .i64 0, .int .i64 0, .int .i64 0, .int .i64 0, .int .i64 0, .int .i64 0, .int .i64 0, .int .i64 0, .int .i64 0, .int .i64 0, .int .i64 0, .int .i64 0, .int .i64 0, .slice none 0 0]).alloc _
  go_enter Try.func86, Try.ntmps86
  go_upto_region 7 with fail
  generalize (w.alloc (.cells #[.int .i64 0, .int .i64 0, .int .i64 0, .int .i64 0, .int .i64 0, .int .i64 0, .int .i64 0, .int .i64 0, .int .i64 0, .int .i64 0, .int .i64 0, .int .i64 0, .int .i64 0, .int .i64 0, .int .i64 0, .int .i64 0, .slice none 0 0] 76)).alloc (.cells #[.int .i64 3, .int .i64 0, .int .i64 0, .int .i64 0, .int .i64 0, .int .i64 0, .int .i64 0, .int .i64 0, .int .i64 0, .int .i64 0, .int .i64 0, .int .i64 0, .int .i64 0, .int .i64 0, .int .i64 0, .int .i64 0, .slice none 0 0] 76) = W at HB HS HZ ⊢
  have x0' := (HB.out.cell (p := ⟨b, o, none⟩) hb).trans x0
  have x1' := (HB.out.cell (p := ⟨b, o + 1, none⟩) hb).trans x1
  clear x0 x1
  have HS2 : Hid (Blk W.drew (w.heap.size + 1) 76 [.int .i64 3, .int .i64 0, .int .i64 0, .int .i64 0, .int .i64 0, .int .i64 0, .int .i64 0, .int .i64 0, .int .i64 0, .int .i64 0, .int .i64 0, .int .i64 0, .int .i64 0, .int .i64 0, .int .i64 0, .int .i64 0, .slice none 0 0]) := HS.out
  have HZ2 : Hid (Blk W.drew w.heap.size 76 [.int .i64 0, .int .i64 0, .int .i64 0, .int .i64 0, .int .i64 0, .int .i64 0, .int .i64 0, .int .i64 0, .int .i64 0, .int .i64 0, .int .i64 0, .int .i64 0, .int .i64 0, .int .i64 0, .int .i64 0, .int .i64 0, .slice none 0 0]) := HZ.out
  have HB2 : Hid (Below w.heap.size w W.drew) := HB.out.drew
  go_still_tail 8, (by kernel_rfl)
  change wpList _ _ _ _ _ W.drew
  generalize W.drew = W2 at HS2 HZ2 HB2 ⊢
  have f0 := HS2.out.frozen 8
  have c0 : W2.cell? ⟨w.heap.size + 1, 8, none⟩ = some (.int .i64 0) := HS2.out.cell rfl
  have f1 := HS2.out.frozen 9
  have c1 : W2.cell? ⟨w.heap.size + 1, 9, none⟩ = some (.int .i64 0) := HS2.out.cell rfl
  go_upto_region 14 with fail
  have HR : Blk (((W2).setCell ⟨w.heap.size + 1, 8, none⟩ (.int .i64 a0)).setCell ⟨w.heap.size + 1, 9, none⟩ (.int .i64 a1)) (w.heap.size + 1) 76 [.int .i64 3, .int .i64 0, .int .i64 0, .int .i64 0, .int .i64 0, .int .i64 0, .int .i64 0, .int .i64 0, .int .i64 a0, .int .i64 a1, .int .i64 0, .int .i64 0, .int .i64 0, .int .i64 0, .int .i64 0, .int .i64 0, .slice none 0 0] := ((HS2.out).set_ 8 _).set_ 9 _
  have HZ3 : Blk (((W2).setCell ⟨w.heap.size + 1, 8, none⟩ (.int .i64 a0)).setCell ⟨w.heap.size + 1, 9, none⟩ (.int .i64 a1)) w.heap.size 76 [.int .i64 0, .int .i64 0, .int .i64 0, .int .i64 0, .int .i64 0, .int .i64 0, .int .i64 0, .int .i64 0, .int .i64 0, .int .i64 0, .int .i64 0, .int .i64 0, .int .i64 0, .int .i64 0, .int .i64 0, .int .i64 0, .slice none 0 0] := ((HZ2.out).far (by simp) _).far (by simp) _
  have HB3 : Below w.heap.size w (((W2).setCell ⟨w.heap.size + 1, 8, none⟩ (.int .i64 a0)).setCell ⟨w.heap.size + 1, 9, none⟩ (.int .i64 a1)) := ((HB2.out).setCell (p := ⟨w.heap.size + 1, 8, none⟩) (by dsimp only; omega) _).setCell (p := ⟨w.heap.size + 1, 9, none⟩) (by dsimp only; omega) _
  refine wp_region_lit ?_
  refine wpList_load_row rfl _ _ rfl (w.heap.size + 1) rfl 76 _ (0, 0) _ HR Try.underlying76 rfl size_ses ?_
  refine wpList_store_row rfl _ _ _ rfl w.heap.size _ rfl rfl _ _ HZ3 size_ses rfl (by simp [Value.oneCell']) ?_
  have HF := setRow_heap (((W2).setCell ⟨w.heap.size + 1, 8, none⟩ (.int .i64 a0)).setCell ⟨w.heap.size + 1, 9, none⟩ (.int .i64 a1)) w.heap.size _ ([.int .i64 3, .int .i64 0, .int .i64 0, .int .i64 0, .int .i64 0, .int .i64 0, .int .i64 0, .int .i64 0, .int .i64 a0, .int .i64 a1, .int .i64 0, .int .i64 0, .int .i64 0, .int .i64 0, .int .i64 0, .int .i64 0, .slice none 0 0]).toArray _ _ HZ3
  have HB4 : Below w.heap.size w ((((W2).setCell ⟨w.heap.size + 1, 8, none⟩ (.int .i64 a0)).setCell ⟨w.heap.size + 1, 9, none⟩ (.int .i64 a1)).setRow w.heap.size ([.int .i64 3, .int .i64 0, .int .i64 0, .int .i64 0, .int .i64 0, .int .i64 0, .int .i64 0, .int .i64 0, .int .i64 a0, .int .i64 a1, .int .i64 0, .int .i64 0, .int .i64 0, .int .i64 0, .int .i64 0, .int .i64 0, .slice none 0 0]).toArray) := below_row HB3 (Nat.le_refl _)
  clear HR HZ3 HB3
  go_wp2_with fail
  refine bodyPost_ret_by (results_cell_row rfl _ _ w.heap.size 76 _ (0, 0) _ rfl HF Try.underlying76 rfl size_ses) rfl ?_
  exact ⟨rfl, HB4⟩

set_option maxRecDepth 100000 in
set_option maxHeartbeats 4000000 in
theorem made4_any (b o k : Nat) (a0 a1 : Nat) (w : World) (hb : b < w.heap.size) (x0 : w.cell? ⟨b, o, none⟩ = some (.int .i64 a0)) (x1 : w.cell? ⟨b, o + 1, none⟩ = some (.int .i64 a1)) :
    Calls Try.prog 86 #[.int .i64 4, .slice (some ⟨b, o, none⟩) 2 k] w (MadR (madeS 4 [a0, a1]) w) := by
  have HB : Hid (Below w.heap.size w ((w.alloc (.cells #[.int .i64 0, .int .i64 0, .int .i64 0, .int .i64 0, .int .i64 0, .int .i64 0, .int .i64 0, .int .i64 0, .int .i64 0, .int .i64 0, .int .i64 0, .int .i64 0, .int .i64 0, .int .i64 0, .int .i64 0, .int .i64 0, .slice none 0 0] 76)).alloc (.cells #[.int .i64 4, .int .i64 0, .int .i64 0, .int .i64 0, .int .i64 0, .int .i64 0, .int .i64 0, .int .i64 0, .int .i64 0, .int .i64 0, .int .i64 0, .int .i64 0, .int .i64 0, .int .i64 0, .int .i64 0, .int .i64 0, .slice none 0 0] 76))) := ((Below.refl _ _).alloc (Nat.le_refl _) _).alloc (by simp) _
  have HS : Hid (Blk ((w.alloc (.cells #[.int .i64 0, .int .i64 0, .int .i64 0, .int .i64 0, .int .i64 0, .int .i64 0, .int .i64 0, .int .i64 0, .int .i64 0, .int .i64 0, .int .i64 0, .int .i64 0, .int .i64 0, .int .i64 0, .int .i64 0, .int .i64 0, .slice none 0 0] 76)).alloc (.cells #[.int .i64 4, .int .i64 0, .int .i64 0, .int .i64 0, .int .i64 0, .int .i64 0, .int .i64 0, .int .i64 0, .int .i64 0, .int .i64 0, .int .i64 0, .int .i64 0, .int .i64 0, .int .i64 0, .int .i64 0, .int .i64 0, .slice none 0 0] 76)) (w.heap.size + 1) 76 [.int .i64 4, .int .i64 0, .int .i64 0, .int .i64 0, .int .i64 0, .int .i64 0, .int .i64 0, .int .i64 0, .int .i64 0, .int .i64 0, .int .i64 0, .int .i64 0, .int .i64 0, .int .i64 0, .int .i64 0, .int .i64 0, .slice none 0 0]) := by
    have h9 := Blk.new (w.alloc (.cells #[.int .i64 0, .int .i64 0, .int .i64 0, .int .i64 0, .int .i64 0, .int .i64 0, .int .i64 0, .int .i64 0, .int .i64 0, .int .i64 0, .int .i64 0, .int .i64 0, .int .i64 0, .int .i64 0, .int .i64 0, .int .i64 0, .slice none 0 0] 76)) 76 [.int .i64 4, .int .i64 0, .int .i64 0, .int .i64 0, .int .i64 0, .int .i64 0, .int .i64 0, .int .i64 0, .int .i64 0, .int .i64 0, .int .i64 0, .int .i64 0, .int .i64 0, .int .i64 0, .int .i64 0, .int .i64 0, .slice none 0 0]
    rw [World.size_alloc] at h9
    exact h9
  have HZ : Hid (Blk ((w.alloc (.cells #[.int .i64 0, .int .i64 0, .int .i64 0, .int .i64 0, .int .i64 0, .int .i64 0, .int .i64 0, .int .i64 0, .int .i64 0, .int .i64 0, .int .i64 0, .int .i64 0, .int .i64 0, .int .i64 0, .int .i64 0, .int .i64 0, .slice none 0 0] 76)).alloc (.cells #[.int .i64 4, .int .i64 0, .int .i64 0, .int .i64 0, .int .i64 0, .int .i64 0, .int .i64 0, .int .i64 0, .int .i64 0, .int .i64 0, .int .i64 0, .int .i64 0, .int .i64 0, .int .i64 0, .int .i64 0, .int .i64 0, .slice none 0 0] 76)) w.heap.size 76 [.int .i64 0, .int .i64 0, .int .i64 0, .int .i64 0, .int .i64 0, .int .i64 0, .int .i64 0, .int .i64 0, .int .i64 0, .int .i64 0, .int .i64 0, .int .i64 0, .int .i64 0, .int .i64 0, .int .i64 0, .int .i64 0, .slice none 0 0]) := (Blk.new w 76 [.int .i64 0, .int .i64 0, .int .i64 0, .int .i64 0, .int .i64 0, .int .i64 0, .int .i64 0, .int .i64 0, .int .i64 0, .int .i64 0, .int .i64 0, .int .i64 0, .int .i64 0, .int .i64 0, .int .i64 0, .int .i64 0, .slice none 0 0]).alloc _
  go_enter Try.func86, Try.ntmps86
  go_upto_region 9 with fail
  generalize (w.alloc (.cells #[.int .i64 0, .int .i64 0, .int .i64 0, .int .i64 0, .int .i64 0, .int .i64 0, .int .i64 0, .int .i64 0, .int .i64 0, .int .i64 0, .int .i64 0, .int .i64 0, .int .i64 0, .int .i64 0, .int .i64 0, .int .i64 0, .slice none 0 0] 76)).alloc (.cells #[.int .i64 4, .int .i64 0, .int .i64 0, .int .i64 0, .int .i64 0, .int .i64 0, .int .i64 0, .int .i64 0, .int .i64 0, .int .i64 0, .int .i64 0, .int .i64 0, .int .i64 0, .int .i64 0, .int .i64 0, .int .i64 0, .slice none 0 0] 76) = W at HB HS HZ ⊢
  have x0' := (HB.out.cell (p := ⟨b, o, none⟩) hb).trans x0
  have x1' := (HB.out.cell (p := ⟨b, o + 1, none⟩) hb).trans x1
  clear x0 x1
  have HS2 : Hid (Blk W.drew (w.heap.size + 1) 76 [.int .i64 4, .int .i64 0, .int .i64 0, .int .i64 0, .int .i64 0, .int .i64 0, .int .i64 0, .int .i64 0, .int .i64 0, .int .i64 0, .int .i64 0, .int .i64 0, .int .i64 0, .int .i64 0, .int .i64 0, .int .i64 0, .slice none 0 0]) := HS.out
  have HZ2 : Hid (Blk W.drew w.heap.size 76 [.int .i64 0, .int .i64 0, .int .i64 0, .int .i64 0, .int .i64 0, .int .i64 0, .int .i64 0, .int .i64 0, .int .i64 0, .int .i64 0, .int .i64 0, .int .i64 0, .int .i64 0, .int .i64 0, .int .i64 0, .int .i64 0, .slice none 0 0]) := HZ.out
  have HB2 : Hid (Below w.heap.size w W.drew) := HB.out.drew
  go_still_tail 8, (by kernel_rfl)
  change wpList _ _ _ _ _ W.drew
  generalize W.drew = W2 at HS2 HZ2 HB2 ⊢
  have f0 := HS2.out.frozen 10
  have c0 : W2.cell? ⟨w.heap.size + 1, 10, none⟩ = some (.int .i64 0) := HS2.out.cell rfl
  have f1 := HS2.out.frozen 11
  have c1 : W2.cell? ⟨w.heap.size + 1, 11, none⟩ = some (.int .i64 0) := HS2.out.cell rfl
  go_upto_region 14 with fail
  have HR : Blk (((W2).setCell ⟨w.heap.size + 1, 10, none⟩ (.int .i64 a0)).setCell ⟨w.heap.size + 1, 11, none⟩ (.int .i64 a1)) (w.heap.size + 1) 76 [.int .i64 4, .int .i64 0, .int .i64 0, .int .i64 0, .int .i64 0, .int .i64 0, .int .i64 0, .int .i64 0, .int .i64 0, .int .i64 0, .int .i64 a0, .int .i64 a1, .int .i64 0, .int .i64 0, .int .i64 0, .int .i64 0, .slice none 0 0] := ((HS2.out).set_ 10 _).set_ 11 _
  have HZ3 : Blk (((W2).setCell ⟨w.heap.size + 1, 10, none⟩ (.int .i64 a0)).setCell ⟨w.heap.size + 1, 11, none⟩ (.int .i64 a1)) w.heap.size 76 [.int .i64 0, .int .i64 0, .int .i64 0, .int .i64 0, .int .i64 0, .int .i64 0, .int .i64 0, .int .i64 0, .int .i64 0, .int .i64 0, .int .i64 0, .int .i64 0, .int .i64 0, .int .i64 0, .int .i64 0, .int .i64 0, .slice none 0 0] := ((HZ2.out).far (by simp) _).far (by simp) _
  have HB3 : Below w.heap.size w (((W2).setCell ⟨w.heap.size + 1, 10, none⟩ (.int .i64 a0)).setCell ⟨w.heap.size + 1, 11, none⟩ (.int .i64 a1)) := ((HB2.out).setCell (p := ⟨w.heap.size + 1, 10, none⟩) (by dsimp only; omega) _).setCell (p := ⟨w.heap.size + 1, 11, none⟩) (by dsimp only; omega) _
  refine wp_region_lit ?_
  refine wpList_load_row rfl _ _ rfl (w.heap.size + 1) rfl 76 _ (0, 0) _ HR Try.underlying76 rfl size_ses ?_
  refine wpList_store_row rfl _ _ _ rfl w.heap.size _ rfl rfl _ _ HZ3 size_ses rfl (by simp [Value.oneCell']) ?_
  have HF := setRow_heap (((W2).setCell ⟨w.heap.size + 1, 10, none⟩ (.int .i64 a0)).setCell ⟨w.heap.size + 1, 11, none⟩ (.int .i64 a1)) w.heap.size _ ([.int .i64 4, .int .i64 0, .int .i64 0, .int .i64 0, .int .i64 0, .int .i64 0, .int .i64 0, .int .i64 0, .int .i64 0, .int .i64 0, .int .i64 a0, .int .i64 a1, .int .i64 0, .int .i64 0, .int .i64 0, .int .i64 0, .slice none 0 0]).toArray _ _ HZ3
  have HB4 : Below w.heap.size w ((((W2).setCell ⟨w.heap.size + 1, 10, none⟩ (.int .i64 a0)).setCell ⟨w.heap.size + 1, 11, none⟩ (.int .i64 a1)).setRow w.heap.size ([.int .i64 4, .int .i64 0, .int .i64 0, .int .i64 0, .int .i64 0, .int .i64 0, .int .i64 0, .int .i64 0, .int .i64 0, .int .i64 0, .int .i64 a0, .int .i64 a1, .int .i64 0, .int .i64 0, .int .i64 0, .int .i64 0, .slice none 0 0]).toArray) := below_row HB3 (Nat.le_refl _)
  clear HR HZ3 HB3
  go_wp2_with fail
  refine bodyPost_ret_by (results_cell_row rfl _ _ w.heap.size 76 _ (0, 0) _ rfl HF Try.underlying76 rfl size_ses) rfl ?_
  exact ⟨rfl, HB4⟩

set_option maxRecDepth 100000 in
set_option maxHeartbeats 4000000 in
theorem made5_any (b o k : Nat) (a0 a1 : Nat) (w : World) (hb : b < w.heap.size) (x0 : w.cell? ⟨b, o, none⟩ = some (.int .i64 a0)) (x1 : w.cell? ⟨b, o + 1, none⟩ = some (.int .i64 a1)) :
    Calls Try.prog 86 #[.int .i64 5, .slice (some ⟨b, o, none⟩) 2 k] w (MadR (madeS 5 [a0, a1]) w) := by
  have HB : Hid (Below w.heap.size w ((w.alloc (.cells #[.int .i64 0, .int .i64 0, .int .i64 0, .int .i64 0, .int .i64 0, .int .i64 0, .int .i64 0, .int .i64 0, .int .i64 0, .int .i64 0, .int .i64 0, .int .i64 0, .int .i64 0, .int .i64 0, .int .i64 0, .int .i64 0, .slice none 0 0] 76)).alloc (.cells #[.int .i64 5, .int .i64 0, .int .i64 0, .int .i64 0, .int .i64 0, .int .i64 0, .int .i64 0, .int .i64 0, .int .i64 0, .int .i64 0, .int .i64 0, .int .i64 0, .int .i64 0, .int .i64 0, .int .i64 0, .int .i64 0, .slice none 0 0] 76))) := ((Below.refl _ _).alloc (Nat.le_refl _) _).alloc (by simp) _
  have HS : Hid (Blk ((w.alloc (.cells #[.int .i64 0, .int .i64 0, .int .i64 0, .int .i64 0, .int .i64 0, .int .i64 0, .int .i64 0, .int .i64 0, .int .i64 0, .int .i64 0, .int .i64 0, .int .i64 0, .int .i64 0, .int .i64 0, .int .i64 0, .int .i64 0, .slice none 0 0] 76)).alloc (.cells #[.int .i64 5, .int .i64 0, .int .i64 0, .int .i64 0, .int .i64 0, .int .i64 0, .int .i64 0, .int .i64 0, .int .i64 0, .int .i64 0, .int .i64 0, .int .i64 0, .int .i64 0, .int .i64 0, .int .i64 0, .int .i64 0, .slice none 0 0] 76)) (w.heap.size + 1) 76 [.int .i64 5, .int .i64 0, .int .i64 0, .int .i64 0, .int .i64 0, .int .i64 0, .int .i64 0, .int .i64 0, .int .i64 0, .int .i64 0, .int .i64 0, .int .i64 0, .int .i64 0, .int .i64 0, .int .i64 0, .int .i64 0, .slice none 0 0]) := by
    have h9 := Blk.new (w.alloc (.cells #[.int .i64 0, .int .i64 0, .int .i64 0, .int .i64 0, .int .i64 0, .int .i64 0, .int .i64 0, .int .i64 0, .int .i64 0, .int .i64 0, .int .i64 0, .int .i64 0, .int .i64 0, .int .i64 0, .int .i64 0, .int .i64 0, .slice none 0 0] 76)) 76 [.int .i64 5, .int .i64 0, .int .i64 0, .int .i64 0, .int .i64 0, .int .i64 0, .int .i64 0, .int .i64 0, .int .i64 0, .int .i64 0, .int .i64 0, .int .i64 0, .int .i64 0, .int .i64 0, .int .i64 0, .int .i64 0, .slice none 0 0]
    rw [World.size_alloc] at h9
    exact h9
  have HZ : Hid (Blk ((w.alloc (.cells #[.int .i64 0, .int .i64 0, .int .i64 0, .int .i64 0, .int .i64 0, .int .i64 0, .int .i64 0, .int .i64 0, .int .i64 0, .int .i64 0, .int .i64 0, .int .i64 0, .int .i64 0, .int .i64 0, .int .i64 0, .int .i64 0, .slice none 0 0] 76)).alloc (.cells #[.int .i64 5, .int .i64 0, .int .i64 0, .int .i64 0, .int .i64 0, .int .i64 0, .int .i64 0, .int .i64 0, .int .i64 0, .int .i64 0, .int .i64 0, .int .i64 0, .int .i64 0, .int .i64 0, .int .i64 0, .int .i64 0, .slice none 0 0] 76)) w.heap.size 76 [.int .i64 0, .int .i64 0, .int .i64 0, .int .i64 0, .int .i64 0, .int .i64 0, .int .i64 0, .int .i64 0, .int .i64 0, .int .i64 0, .int .i64 0, .int .i64 0, .int .i64 0, .int .i64 0, .int .i64 0, .int .i64 0, .slice none 0 0]) := (Blk.new w 76 [.int .i64 0, .int .i64 0, .int .i64 0, .int .i64 0, .int .i64 0, .int .i64 0, .int .i64 0, .int .i64 0, .int .i64 0, .int .i64 0, .int .i64 0, .int .i64 0, .int .i64 0, .int .i64 0, .int .i64 0, .int .i64 0, .slice none 0 0]).alloc _
  go_enter Try.func86, Try.ntmps86
  go_upto_region 11 with fail
  generalize (w.alloc (.cells #[.int .i64 0, .int .i64 0, .int .i64 0, .int .i64 0, .int .i64 0, .int .i64 0, .int .i64 0, .int .i64 0, .int .i64 0, .int .i64 0, .int .i64 0, .int .i64 0, .int .i64 0, .int .i64 0, .int .i64 0, .int .i64 0, .slice none 0 0] 76)).alloc (.cells #[.int .i64 5, .int .i64 0, .int .i64 0, .int .i64 0, .int .i64 0, .int .i64 0, .int .i64 0, .int .i64 0, .int .i64 0, .int .i64 0, .int .i64 0, .int .i64 0, .int .i64 0, .int .i64 0, .int .i64 0, .int .i64 0, .slice none 0 0] 76) = W at HB HS HZ ⊢
  have x0' := (HB.out.cell (p := ⟨b, o, none⟩) hb).trans x0
  have x1' := (HB.out.cell (p := ⟨b, o + 1, none⟩) hb).trans x1
  clear x0 x1
  have HS2 : Hid (Blk W.drew (w.heap.size + 1) 76 [.int .i64 5, .int .i64 0, .int .i64 0, .int .i64 0, .int .i64 0, .int .i64 0, .int .i64 0, .int .i64 0, .int .i64 0, .int .i64 0, .int .i64 0, .int .i64 0, .int .i64 0, .int .i64 0, .int .i64 0, .int .i64 0, .slice none 0 0]) := HS.out
  have HZ2 : Hid (Blk W.drew w.heap.size 76 [.int .i64 0, .int .i64 0, .int .i64 0, .int .i64 0, .int .i64 0, .int .i64 0, .int .i64 0, .int .i64 0, .int .i64 0, .int .i64 0, .int .i64 0, .int .i64 0, .int .i64 0, .int .i64 0, .int .i64 0, .int .i64 0, .slice none 0 0]) := HZ.out
  have HB2 : Hid (Below w.heap.size w W.drew) := HB.out.drew
  go_still_tail 8, (by kernel_rfl)
  change wpList _ _ _ _ _ W.drew
  generalize W.drew = W2 at HS2 HZ2 HB2 ⊢
  have f0 := HS2.out.frozen 12
  have c0 : W2.cell? ⟨w.heap.size + 1, 12, none⟩ = some (.int .i64 0) := HS2.out.cell rfl
  have f1 := HS2.out.frozen 13
  have c1 : W2.cell? ⟨w.heap.size + 1, 13, none⟩ = some (.int .i64 0) := HS2.out.cell rfl
  go_upto_region 14 with fail
  have HR : Blk (((W2).setCell ⟨w.heap.size + 1, 12, none⟩ (.int .i64 a0)).setCell ⟨w.heap.size + 1, 13, none⟩ (.int .i64 a1)) (w.heap.size + 1) 76 [.int .i64 5, .int .i64 0, .int .i64 0, .int .i64 0, .int .i64 0, .int .i64 0, .int .i64 0, .int .i64 0, .int .i64 0, .int .i64 0, .int .i64 0, .int .i64 0, .int .i64 a0, .int .i64 a1, .int .i64 0, .int .i64 0, .slice none 0 0] := ((HS2.out).set_ 12 _).set_ 13 _
  have HZ3 : Blk (((W2).setCell ⟨w.heap.size + 1, 12, none⟩ (.int .i64 a0)).setCell ⟨w.heap.size + 1, 13, none⟩ (.int .i64 a1)) w.heap.size 76 [.int .i64 0, .int .i64 0, .int .i64 0, .int .i64 0, .int .i64 0, .int .i64 0, .int .i64 0, .int .i64 0, .int .i64 0, .int .i64 0, .int .i64 0, .int .i64 0, .int .i64 0, .int .i64 0, .int .i64 0, .int .i64 0, .slice none 0 0] := ((HZ2.out).far (by simp) _).far (by simp) _
  have HB3 : Below w.heap.size w (((W2).setCell ⟨w.heap.size + 1, 12, none⟩ (.int .i64 a0)).setCell ⟨w.heap.size + 1, 13, none⟩ (.int .i64 a1)) := ((HB2.out).setCell (p := ⟨w.heap.size + 1, 12, none⟩) (by dsimp only; omega) _).setCell (p := ⟨w.heap.size + 1, 13, none⟩) (by dsimp only; omega) _
  refine wp_region_lit ?_
  refine wpList_load_row rfl _ _ rfl (w.heap.size + 1) rfl 76 _ (0, 0) _ HR Try.underlying76 rfl size_ses ?_
  refine wpList_store_row rfl _ _ _ rfl w.heap.size _ rfl rfl _ _ HZ3 size_ses rfl (by simp [Value.oneCell']) ?_
  have HF := setRow_heap (((W2).setCell ⟨w.heap.size + 1, 12, none⟩ (.int .i64 a0)).setCell ⟨w.heap.size + 1, 13, none⟩ (.int .i64 a1)) w.heap.size _ ([.int .i64 5, .int .i64 0, .int .i64 0, .int .i64 0, .int .i64 0, .int .i64 0, .int .i64 0, .int .i64 0, .int .i64 0, .int .i64 0, .int .i64 0, .int .i64 0, .int .i64 a0, .int .i64 a1, .int .i64 0, .int .i64 0, .slice none 0 0]).toArray _ _ HZ3
  have HB4 : Below w.heap.size w ((((W2).setCell ⟨w.heap.size + 1, 12, none⟩ (.int .i64 a0)).setCell ⟨w.heap.size + 1, 13, none⟩ (.int .i64 a1)).setRow w.heap.size ([.int .i64 5, .int .i64 0, .int .i64 0, .int .i64 0, .int .i64 0, .int .i64 0, .int .i64 0, .int .i64 0, .int .i64 0, .int .i64 0, .int .i64 0, .int .i64 0, .int .i64 a0, .int .i64 a1, .int .i64 0, .int .i64 0, .slice none 0 0]).toArray) := below_row HB3 (Nat.le_refl _)
  clear HR HZ3 HB3
  go_wp2_with fail
  refine bodyPost_ret_by (results_cell_row rfl _ _ w.heap.size 76 _ (0, 0) _ rfl HF Try.underlying76 rfl size_ses) rfl ?_
  exact ⟨rfl, HB4⟩

set_option maxRecDepth 100000 in
set_option maxHeartbeats 4000000 in
theorem made6_any (b o k : Nat) (a0 a1 : Nat) (w : World) (hb : b < w.heap.size) (x0 : w.cell? ⟨b, o, none⟩ = some (.int .i64 a0)) (x1 : w.cell? ⟨b, o + 1, none⟩ = some (.int .i64 a1)) :
    Calls Try.prog 86 #[.int .i64 6, .slice (some ⟨b, o, none⟩) 2 k] w (MadR (madeS 6 [a0, a1]) w) := by
  have HB : Hid (Below w.heap.size w ((w.alloc (.cells #[.int .i64 0, .int .i64 0, .int .i64 0, .int .i64 0, .int .i64 0, .int .i64 0, .int .i64 0, .int .i64 0, .int .i64 0, .int .i64 0, .int .i64 0, .int .i64 0, .int .i64 0, .int .i64 0, .int .i64 0, .int .i64 0, .slice none 0 0] 76)).alloc (.cells #[.int .i64 6, .int .i64 0, .int .i64 0, .int .i64 0, .int .i64 0, .int .i64 0, .int .i64 0, .int .i64 0, .int .i64 0, .int .i64 0, .int .i64 0, .int .i64 0, .int .i64 0, .int .i64 0, .int .i64 0, .int .i64 0, .slice none 0 0] 76))) := ((Below.refl _ _).alloc (Nat.le_refl _) _).alloc (by simp) _
  have HS : Hid (Blk ((w.alloc (.cells #[.int .i64 0, .int .i64 0, .int .i64 0, .int .i64 0, .int .i64 0, .int .i64 0, .int .i64 0, .int .i64 0, .int .i64 0, .int .i64 0, .int .i64 0, .int .i64 0, .int .i64 0, .int .i64 0, .int .i64 0, .int .i64 0, .slice none 0 0] 76)).alloc (.cells #[.int .i64 6, .int .i64 0, .int .i64 0, .int .i64 0, .int .i64 0, .int .i64 0, .int .i64 0, .int .i64 0, .int .i64 0, .int .i64 0, .int .i64 0, .int .i64 0, .int .i64 0, .int .i64 0, .int .i64 0, .int .i64 0, .slice none 0 0] 76)) (w.heap.size + 1) 76 [.int .i64 6, .int .i64 0, .int .i64 0, .int .i64 0, .int .i64 0, .int .i64 0, .int .i64 0, .int .i64 0, .int .i64 0, .int .i64 0, .int .i64 0, .int .i64 0, .int .i64 0, .int .i64 0, .int .i64 0, .int .i64 0, .slice none 0 0]) := by
    have h9 := Blk.new (w.alloc (.cells #[.int .i64 0, .int .i64 0, .int .i64 0, .int .i64 0, .int .i64 0, .int .i64 0, .int .i64 0, .int .i64 0, .int .i64 0, .int .i64 0, .int .i64 0, .int .i64 0, .int .i64 0, .int .i64 0, .int .i64 0, .int .i64 0, .slice none 0 0] 76)) 76 [.int .i64 6, .int .i64 0, .int .i64 0, .int .i64 0, .int .i64 0, .int .i64 0, .int .i64 0, .int .i64 0, .int .i64 0, .int .i64 0, .int .i64 0, .int .i64 0, .int .i64 0, .int .i64 0, .int .i64 0, .int .i64 0, .slice none 0 0]
    rw [World.size_alloc] at h9
    exact h9
  have HZ : Hid (Blk ((w.alloc (.cells #[.int .i64 0, .int .i64 0, .int .i64 0, .int .i64 0, .int .i64 0, .int .i64 0, .int .i64 0, .int .i64 0, .int .i64 0, .int .i64 0, .int .i64 0, .int .i64 0, .int .i64 0, .int .i64 0, .int .i64 0, .int .i64 0, .slice none 0 0] 76)).alloc (.cells #[.int .i64 6, .int .i64 0, .int .i64 0, .int .i64 0, .int .i64 0, .int .i64 0, .int .i64 0, .int .i64 0, .int .i64 0, .int .i64 0, .int .i64 0, .int .i64 0, .int .i64 0, .int .i64 0, .int .i64 0, .int .i64 0, .slice none 0 0] 76)) w.heap.size 76 [.int .i64 0, .int .i64 0, .int .i64 0, .int .i64 0, .int .i64 0, .int .i64 0, .int .i64 0, .int .i64 0, .int .i64 0, .int .i64 0, .int .i64 0, .int .i64 0, .int .i64 0, .int .i64 0, .int .i64 0, .int .i64 0, .slice none 0 0]) := (Blk.new w 76 [.int .i64 0, .int .i64 0, .int .i64 0, .int .i64 0, .int .i64 0, .int .i64 0, .int .i64 0, .int .i64 0, .int .i64 0, .int .i64 0, .int .i64 0, .int .i64 0, .int .i64 0, .int .i64 0, .int .i64 0, .int .i64 0, .slice none 0 0]).alloc _
  go_enter Try.func86, Try.ntmps86
  go_upto_region 13 with fail
  generalize (w.alloc (.cells #[.int .i64 0, .int .i64 0, .int .i64 0, .int .i64 0, .int .i64 0, .int .i64 0, .int .i64 0, .int .i64 0, .int .i64 0, .int .i64 0, .int .i64 0, .int .i64 0, .int .i64 0, .int .i64 0, .int .i64 0, .int .i64 0, .slice none 0 0] 76)).alloc (.cells #[.int .i64 6, .int .i64 0, .int .i64 0, .int .i64 0, .int .i64 0, .int .i64 0, .int .i64 0, .int .i64 0, .int .i64 0, .int .i64 0, .int .i64 0, .int .i64 0, .int .i64 0, .int .i64 0, .int .i64 0, .int .i64 0, .slice none 0 0] 76) = W at HB HS HZ ⊢
  have x0' := (HB.out.cell (p := ⟨b, o, none⟩) hb).trans x0
  have x1' := (HB.out.cell (p := ⟨b, o + 1, none⟩) hb).trans x1
  clear x0 x1
  have HS2 : Hid (Blk W.drew (w.heap.size + 1) 76 [.int .i64 6, .int .i64 0, .int .i64 0, .int .i64 0, .int .i64 0, .int .i64 0, .int .i64 0, .int .i64 0, .int .i64 0, .int .i64 0, .int .i64 0, .int .i64 0, .int .i64 0, .int .i64 0, .int .i64 0, .int .i64 0, .slice none 0 0]) := HS.out
  have HZ2 : Hid (Blk W.drew w.heap.size 76 [.int .i64 0, .int .i64 0, .int .i64 0, .int .i64 0, .int .i64 0, .int .i64 0, .int .i64 0, .int .i64 0, .int .i64 0, .int .i64 0, .int .i64 0, .int .i64 0, .int .i64 0, .int .i64 0, .int .i64 0, .int .i64 0, .slice none 0 0]) := HZ.out
  have HB2 : Hid (Below w.heap.size w W.drew) := HB.out.drew
  go_still_tail 8, (by kernel_rfl)
  change wpList _ _ _ _ _ W.drew
  generalize W.drew = W2 at HS2 HZ2 HB2 ⊢
  have f0 := HS2.out.frozen 14
  have c0 : W2.cell? ⟨w.heap.size + 1, 14, none⟩ = some (.int .i64 0) := HS2.out.cell rfl
  have f1 := HS2.out.frozen 15
  have c1 : W2.cell? ⟨w.heap.size + 1, 15, none⟩ = some (.int .i64 0) := HS2.out.cell rfl
  go_upto_region 14 with fail
  have HR : Blk (((W2).setCell ⟨w.heap.size + 1, 14, none⟩ (.int .i64 a0)).setCell ⟨w.heap.size + 1, 15, none⟩ (.int .i64 a1)) (w.heap.size + 1) 76 [.int .i64 6, .int .i64 0, .int .i64 0, .int .i64 0, .int .i64 0, .int .i64 0, .int .i64 0, .int .i64 0, .int .i64 0, .int .i64 0, .int .i64 0, .int .i64 0, .int .i64 0, .int .i64 0, .int .i64 a0, .int .i64 a1, .slice none 0 0] := ((HS2.out).set_ 14 _).set_ 15 _
  have HZ3 : Blk (((W2).setCell ⟨w.heap.size + 1, 14, none⟩ (.int .i64 a0)).setCell ⟨w.heap.size + 1, 15, none⟩ (.int .i64 a1)) w.heap.size 76 [.int .i64 0, .int .i64 0, .int .i64 0, .int .i64 0, .int .i64 0, .int .i64 0, .int .i64 0, .int .i64 0, .int .i64 0, .int .i64 0, .int .i64 0, .int .i64 0, .int .i64 0, .int .i64 0, .int .i64 0, .int .i64 0, .slice none 0 0] := ((HZ2.out).far (by simp) _).far (by simp) _
  have HB3 : Below w.heap.size w (((W2).setCell ⟨w.heap.size + 1, 14, none⟩ (.int .i64 a0)).setCell ⟨w.heap.size + 1, 15, none⟩ (.int .i64 a1)) := ((HB2.out).setCell (p := ⟨w.heap.size + 1, 14, none⟩) (by dsimp only; omega) _).setCell (p := ⟨w.heap.size + 1, 15, none⟩) (by dsimp only; omega) _
  refine wp_region_lit ?_
  refine wpList_load_row rfl _ _ rfl (w.heap.size + 1) rfl 76 _ (0, 0) _ HR Try.underlying76 rfl size_ses ?_
  refine wpList_store_row rfl _ _ _ rfl w.heap.size _ rfl rfl _ _ HZ3 size_ses rfl (by simp [Value.oneCell']) ?_
  have HF := setRow_heap (((W2).setCell ⟨w.heap.size + 1, 14, none⟩ (.int .i64 a0)).setCell ⟨w.heap.size + 1, 15, none⟩ (.int .i64 a1)) w.heap.size _ ([.int .i64 6, .int .i64 0, .int .i64 0, .int .i64 0, .int .i64 0, .int .i64 0, .int .i64 0, .int .i64 0, .int .i64 0, .int .i64 0, .int .i64 0, .int .i64 0, .int .i64 0, .int .i64 0, .int .i64 a0, .int .i64 a1, .slice none 0 0]).toArray _ _ HZ3
  have HB4 : Below w.heap.size w ((((W2).setCell ⟨w.heap.size + 1, 14, none⟩ (.int .i64 a0)).setCell ⟨w.heap.size + 1, 15, none⟩ (.int .i64 a1)).setRow w.heap.size ([.int .i64 6, .int .i64 0, .int .i64 0, .int .i64 0, .int .i64 0, .int .i64 0, .int .i64 0, .int .i64 0, .int .i64 0, .int .i64 0, .int .i64 0, .int .i64 0, .int .i64 0, .int .i64 0, .int .i64 a0, .int .i64 a1, .slice none 0 0]).toArray) := below_row HB3 (Nat.le_refl _)
  clear HR HZ3 HB3
  go_wp2_with fail
  refine bodyPost_ret_by (results_cell_row rfl _ _ w.heap.size 76 _ (0, 0) _ rfl HF Try.underlying76 rfl size_ses) rfl ?_
  exact ⟨rfl, HB4⟩

def natsV (ns : List Nat) : List Value := ns.map fun x : Nat => Value.int .i64 x
theorem natsV_len (ns : List Nat) : (natsV ns).length = ns.length := by simp [natsV]
theorem made_any (kk k : Nat) (ns : List Nat) (A : Option Addr) (w : World) (h : 1 ≤ kk ∧ kk ≤ 6) (hl : ns.length = manyN kk) (hs : Sl w w.heap.size 1 A ns.length (natsV ns)) :
    Calls Try.prog 86 #[.int .i64 kk, .slice A ns.length k] w (MadR (madeS kk ns) w) := by
  have : kk = 1 ∨ kk = 2 ∨ kk = 3 ∨ kk = 4 ∨ kk = 5 ∨ kk = 6 := by omega
  have h2 : ∀ ns : List Nat, ns.length = 2 → ∃ a b, ns = [a, b] := fun ns hn => by
    match ns, hn with
    | [a, b], _ => exact ⟨a, b, rfl⟩
  have h7 : ∀ ns : List Nat, ns.length = 7 → ∃ a b c d e f g, ns = [a, b, c, d, e, f, g] := fun ns hn => by
    match ns, hn with
    | [a, b, c, d, e, f, g], _ => exact ⟨a, b, c, d, e, f, g, rfl⟩
  rcases this with rfl | rfl | rfl | rfl | rfl | rfl
  · obtain ⟨a, b, c, d, e, f, g, rfl⟩ := h7 ns hl
    obtain ⟨bb, o, rfl, hb, hc⟩ := hs.2 (by simp)
    exact made1_any bb o k a b c d e f g w hb (hc 0 _ rfl) (hc 1 _ rfl) (hc 2 _ rfl) (hc 3 _ rfl) (hc 4 _ rfl) (hc 5 _ rfl) (hc 6 _ rfl)
  · obtain ⟨a, b, c, d, e, f, g, rfl⟩ := h7 ns hl
    obtain ⟨bb, o, rfl, hb, hc⟩ := hs.2 (by simp)
    exact made2_any bb o k a b c d e f g w hb (hc 0 _ rfl) (hc 1 _ rfl) (hc 2 _ rfl) (hc 3 _ rfl) (hc 4 _ rfl) (hc 5 _ rfl) (hc 6 _ rfl)
  · obtain ⟨a, b, rfl⟩ := h2 ns hl
    obtain ⟨bb, o, rfl, hb, hc⟩ := hs.2 (by simp)
    exact made3_any bb o k a b w hb (hc 0 _ rfl) (hc 1 _ rfl)
  · obtain ⟨a, b, rfl⟩ := h2 ns hl
    obtain ⟨bb, o, rfl, hb, hc⟩ := hs.2 (by simp)
    exact made4_any bb o k a b w hb (hc 0 _ rfl) (hc 1 _ rfl)
  · obtain ⟨a, b, rfl⟩ := h2 ns hl
    obtain ⟨bb, o, rfl, hb, hc⟩ := hs.2 (by simp)
    exact made5_any bb o k a b w hb (hc 0 _ rfl) (hc 1 _ rfl)
  · obtain ⟨a, b, rfl⟩ := h2 ns hl
    obtain ⟨bb, o, rfl, hb, hc⟩ := hs.2 (by simp)
    exact made6_any bb o k a b w hb (hc 0 _ rfl) (hc 1 _ rfl)
end Go.Proofs.Ytgbopmgeicokoaa
