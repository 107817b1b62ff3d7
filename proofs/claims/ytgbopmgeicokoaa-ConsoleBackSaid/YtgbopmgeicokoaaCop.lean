/-
  reclaimlaw28.copied and sample.
-/
import Derived.Test.YtgbopmgeicokoaaFlds
import Derived.Test.YtgbopmgeicokoaaMvs
import Derived.Great.BuildSlice
import Derived.Test.YtgbopmgeicokoaaWAt
import Derived.Test.YtgbopmgeicokoaaArrOps
namespace Go.Proofs.Ytgbopmgeicokoaa
open Go.RowKit

theorem size_ses : (Try.prog.info? 76).map (·.size) = some 17 := by kernel_rfl
theorem ses_one (s : Ses) (A : Option Addr) (n k : Nat) : (#[.int .i64 s.kind, .int .i64 s.cfg.threads, .int .i64 s.cfg.records, .int .i64 s.cfg.hazards, .int .i64 s.cfg.retire, .int .i64 s.cfg.cache, .int .i64 s.cfg.slots, .int .i64 s.cfg.buckets, .int .i64 s.rt, .int .i64 s.rc, .int .i64 s.dt, .int .i64 s.dr, .int .i64 s.lt, .int .i64 s.lk, .int .i64 s.st, .int .i64 s.sv, .slice A n k] : Array Value).all (·.oneCell') = true := by simp [Value.oneCell']
theorem below_row {B g : Nat} {a w : World} {cs : Array Value} (h : Below B a w) (hg : B ≤ g) : Below B a (w.setRow g cs) :=
  ⟨h.os, h.tape, h.output, by have := h.size; simpa [World.setRow] using this, fun k hk => (setRow_other w g k cs (by omega)).trans (h.block k hk)⟩
theorem below_row' {w : World} {g : Nat} {cs : Array Value} (k : Nat) (hk : k ≠ g) : (w.setRow g cs).heap[k]? = w.heap[k]? := setRow_other w g k cs hk
def CopR (s : Ses) (n : Nat) (ms : List Mv) (w : World) (e : Ending) (w' : World) : Prop :=
  ∃ A k, e = .returned (.tuple #[sesV s (.slice A n k), .slice A (n + 9) k]) ∧ Sl w' w'.heap.size 4 A (n + 9) (mvVals (ms ++ marks 9)) ∧ Below w.heap.size w w' ∧ n + 9 ≤ k ∧ k ≤ maxLen

set_option maxRecDepth 100000 in
set_option maxHeartbeats 4000000 in
theorem copied_any (s : Ses) (A : Option Addr) (n k : Nat) (ms : List Mv) (w : World) (h : MvsAt w w.heap.size A n k ms) (hn : n ≤ 4398046511095) :
    Calls Try.prog 30 #[sesV s (.slice A n k)] w (CopR s n ms w) := by
  obtain ⟨w0, hw0⟩ : ∃ w0 : World, w0 = (w.alloc (.cells #[.int .i64 s.kind, .int .i64 s.cfg.threads, .int .i64 s.cfg.records, .int .i64 s.cfg.hazards, .int .i64 s.cfg.retire, .int .i64 s.cfg.cache, .int .i64 s.cfg.slots, .int .i64 s.cfg.buckets, .int .i64 s.rt, .int .i64 s.rc, .int .i64 s.dt, .int .i64 s.dr, .int .i64 s.lt, .int .i64 s.lk, .int .i64 s.st, .int .i64 s.sv, .slice A n k] 76)).alloc (.cells #[.int .i64 0, .int .i64 0, .int .i64 0, .int .i64 0, .int .i64 0, .int .i64 0, .int .i64 0, .int .i64 0, .int .i64 0, .int .i64 0, .int .i64 0, .int .i64 0, .int .i64 0, .int .i64 0, .int .i64 0, .int .i64 0, .slice none 0 0] 76) := ⟨_, rfl⟩
  have HB0 : Hid (Blk w0 w.heap.size 76 (sesL s (.slice A n k))) := by rw [hw0]; exact (Blk.new w 76 (sesL s (.slice A n k))).alloc _
  have HZ0 : Hid (Blk w0 (w.heap.size + 1) 76 [.int .i64 0, .int .i64 0, .int .i64 0, .int .i64 0, .int .i64 0, .int .i64 0, .int .i64 0, .int .i64 0, .int .i64 0, .int .i64 0, .int .i64 0, .int .i64 0, .int .i64 0, .int .i64 0, .int .i64 0, .int .i64 0, .slice none 0 0]) := by
    rw [hw0]
    have h9 := Blk.new (w.alloc (.cells #[.int .i64 s.kind, .int .i64 s.cfg.threads, .int .i64 s.cfg.records, .int .i64 s.cfg.hazards, .int .i64 s.cfg.retire, .int .i64 s.cfg.cache, .int .i64 s.cfg.slots, .int .i64 s.cfg.buckets, .int .i64 s.rt, .int .i64 s.rc, .int .i64 s.dt, .int .i64 s.dr, .int .i64 s.lt, .int .i64 s.lk, .int .i64 s.st, .int .i64 s.sv, .slice A n k] 76)) 76 [.int .i64 0, .int .i64 0, .int .i64 0, .int .i64 0, .int .i64 0, .int .i64 0, .int .i64 0, .int .i64 0, .int .i64 0, .int .i64 0, .int .i64 0, .int .i64 0, .int .i64 0, .int .i64 0, .int .i64 0, .int .i64 0, .slice none 0 0]
    rw [World.size_alloc] at h9
    exact h9
  have HW0 : Hid (Below w.heap.size w w0) := by rw [hw0]; exact ((Below.refl _ _).alloc (Nat.le_refl _) _).alloc (by simp) _
  have HM := Lib.hid ((h.keep HW0.out).up HW0.out.size)
  have HWe := Lib.hid hw0
  clear h hw0
  go_enter Try.func30, Try.ntmps30
  go_upto_region 1 with fail
  rw [← HWe.out]
  have hgl := HB0.out.lt
  have c16 : w0.cell? ⟨w.heap.size, 16, none⟩ = some (.slice A n k) := HB0.out.cell rfl
  go_wp2_with fail
  refine (twin03_any A n k ms _ HM.out hn).mono ?_
  rintro e w1 ⟨A1, k1, rfl, hs1, hb1, hk1, hk2, hA1⟩
  have HB1 := Lib.hid (HB0.out.below hb1 hgl)
  have HZ1 := Lib.hid (HZ0.out.below hb1 HZ0.out.lt)
  have HW1 := Lib.hid (HW0.out.trans (hb1.mono HW0.out.size))
  have HS1 := Lib.hid hs1
  have c16' : w1.cell? ⟨w.heap.size, 16, none⟩ = some (.slice A n k) := HB1.out.cell rfl
  have f16 := HB1.out.frozen 16
  have hgl1 := HB1.out.lt
  have hgl2 := HZ1.out.lt
  clear c16 hb1 hs1
  go_upto_region 3 with fail
  have HB2 : Hid (Blk (w1.setCell ⟨w.heap.size, 16, none⟩ (.slice A1 n k1)) w.heap.size 76 (sesL s (.slice A1 n k1))) := HB1.out.set_ 16 _
  have HZ2 : Hid (Blk (w1.setCell ⟨w.heap.size, 16, none⟩ (.slice A1 n k1)) (w.heap.size + 1) 76 [.int .i64 0, .int .i64 0, .int .i64 0, .int .i64 0, .int .i64 0, .int .i64 0, .int .i64 0, .int .i64 0, .int .i64 0, .int .i64 0, .int .i64 0, .int .i64 0, .int .i64 0, .int .i64 0, .int .i64 0, .int .i64 0, .slice none 0 0]) := HZ1.out.far (by simp) _
  have HW2 : Hid (Below w.heap.size w (w1.setCell ⟨w.heap.size, 16, none⟩ (.slice A1 n k1))) := HW1.out.setCell (Nat.le_refl _) _
  have HS2 : Hid (Sl (w1.setCell ⟨w.heap.size, 16, none⟩ (.slice A1 n k1)) w1.heap.size 4 A1 (n + 9) (mvVals (ms ++ marks 9))) :=
    HS1.out.other (fun a ha => Below.heap_setCell w1 ⟨w.heap.size, 16, none⟩ _ a.block (by have := hA1 a ha; have := HZ0.out.lt; dsimp only; omega))
  have hz2 : (w1.setCell ⟨w.heap.size, 16, none⟩ (.slice A1 n k1)).heap.size = w1.heap.size := by simp [World.setCell]
  generalize w1.setCell ⟨w.heap.size, 16, none⟩ (.slice A1 n k1) = w2 at HB2 HZ2 HW2 HS2 hz2 ⊢
  refine wp_region_lit ?_
  refine wpList_load_row rfl _ _ rfl w.heap.size rfl 76 _ (0, 0) _ HB2.out Try.underlying76 rfl size_ses ?_
  refine wpList_mv rfl _ rfl (.slice A1 (n + 9) k1) rfl ?_
  refine wpList_store_row rfl _ _ _ rfl (w.heap.size + 1) _ rfl rfl _ _ HZ2.out size_ses rfl (ses_one s A1 n k1) ?_
  have HR := Lib.hid (setRow_heap w2 (w.heap.size + 1) _ (sesL s (.slice A1 n k1)).toArray _ _ HZ2.out)
  go_wp2_with fail
  refine bodyPost_ret_by (results_cell_row2 rfl _ _ (w.heap.size + 1) 76 _ (0, 0) _ rfl HR.out Try.underlying76 rfl size_ses) rfl ?_
  exact ⟨A1, k1, rfl, (HS2.out.other (fun a ha => setRow_other w2 (w.heap.size + 1) a.block _ (by have := hA1 a ha; have := HZ0.out.lt; omega))).up (by rw [← hz2]; simp [World.setRow]), below_row HW2.out (by omega), hk1, hk2⟩

def ses9 : Ses := ⟨3, ⟨0, 0, 0, 0, 0, 0, 0⟩, 2, 3, 0, 0, 0, 0, 0, 0⟩
def mvs9 : List Mv := [⟨0, 100, -1, 0⟩, ⟨1, 0, 0, 0⟩]
def SamR (w : World) (e : Ending) (w' : World) : Prop := ∃ A, e = .returned (sesV ses9 (.slice A 2 2)) ∧ MvsAt w' w'.heap.size A 2 2 mvs9 ∧ Below w.heap.size w w'
set_option maxRecDepth 100000 in
set_option maxHeartbeats 4000000 in
theorem sample_any (w : World) : Calls Try.prog 74 #[] w (SamR w) := by
  go_enter Try.func74, Try.ntmps74
  go_upto_region 1 with fail
  have HZ0 : Hid (Blk (w.alloc (.cells #[.int .i64 0, .int .i64 0, .int .i64 0, .int .i64 0, .int .i64 0, .int .i64 0, .int .i64 0, .int .i64 0, .int .i64 0, .int .i64 0, .int .i64 0, .int .i64 0, .int .i64 0, .int .i64 0, .int .i64 0, .int .i64 0, .slice none 0 0] 76)) w.heap.size 76 [.int .i64 0, .int .i64 0, .int .i64 0, .int .i64 0, .int .i64 0, .int .i64 0, .int .i64 0, .int .i64 0, .int .i64 0, .int .i64 0, .int .i64 0, .int .i64 0, .int .i64 0, .int .i64 0, .int .i64 0, .int .i64 0, .slice none 0 0]) := Blk.new _ _ _
  clear HZ0
  go_wp2_with fail
  have HR : Blk ((w.alloc (.cells #[.int .i64 3, .int .i64 0, .int .i64 0, .int .i64 0, .int .i64 0, .int .i64 0, .int .i64 0, .int .i64 0, .int .i64 2, .int .i64 3, .int .i64 0, .int .i64 0, .int .i64 0, .int .i64 0, .int .i64 0, .int .i64 0, .slice (some ⟨w.heap.size + 1, 0, none⟩) 2 2] 76)).alloc (.cells #[.int .i64 0, .int .i64 100, .int .i64 (-1), .int .i64 0, .int .i64 1, .int .i64 0, .int .i64 0, .int .i64 0] 95)) w.heap.size 76 [.int .i64 3, .int .i64 0, .int .i64 0, .int .i64 0, .int .i64 0, .int .i64 0, .int .i64 0, .int .i64 0, .int .i64 2, .int .i64 3, .int .i64 0, .int .i64 0, .int .i64 0, .int .i64 0, .int .i64 0, .int .i64 0, .slice (some ⟨w.heap.size + 1, 0, none⟩) 2 2] := (Blk.new w 76 [.int .i64 3, .int .i64 0, .int .i64 0, .int .i64 0, .int .i64 0, .int .i64 0, .int .i64 0, .int .i64 0, .int .i64 2, .int .i64 3, .int .i64 0, .int .i64 0, .int .i64 0, .int .i64 0, .int .i64 0, .int .i64 0, .slice (some ⟨w.heap.size + 1, 0, none⟩) 2 2]).alloc _
  have HM := Blk.new (w.alloc (.cells #[.int .i64 3, .int .i64 0, .int .i64 0, .int .i64 0, .int .i64 0, .int .i64 0, .int .i64 0, .int .i64 0, .int .i64 2, .int .i64 3, .int .i64 0, .int .i64 0, .int .i64 0, .int .i64 0, .int .i64 0, .int .i64 0, .slice (some ⟨w.heap.size + 1, 0, none⟩) 2 2] 76)) 95 [.int .i64 0, .int .i64 100, .int .i64 (-1), .int .i64 0, .int .i64 1, .int .i64 0, .int .i64 0, .int .i64 0]
  rw [World.size_alloc] at HM
  refine bodyPost_ret_by (results_cell_row rfl _ _ w.heap.size 76 _ (0, 0) _ rfl HR Try.underlying76 rfl size_ses) rfl ?_
  exact ⟨some ⟨w.heap.size + 1, 0, none⟩, rfl, ⟨(HM.sl (n := 2) (sz := 4) rfl).up (by simp), Nat.le_refl _, by simp [maxLen]⟩, ((Below.refl _ _).alloc (Nat.le_refl _) _).alloc (by simp) _⟩
end Go.Proofs.Ytgbopmgeicokoaa
