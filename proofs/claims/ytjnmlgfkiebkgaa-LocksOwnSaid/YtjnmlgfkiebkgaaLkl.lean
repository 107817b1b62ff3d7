/-
  The filter lock: filter.begin, filter.up, filter.acquire, filter.release.
-/
import Derived.Test.YtjnmlgfkiebkgaaLkf
import Derived.BigQuiet
import Derived.WalkSmall
namespace Go.Proofs.Ytjnmlgfkiebkgaa
open Go.RowKit
set_option linter.unusedVariables false
set_option linter.unusedSimpArgs false

section
variable {W : World} {B db lb : Nat} {L : DL} {vl va : Value} {d : Dk} {l : Lk}
set_option maxRecDepth 100000 in
set_option maxHeartbeats 4000000 in
theorem filt_beg (hk : l.kd = 5) (h : DM W B L vl va d) (hd : Dsk W db L) (hl : LkB W lb l) (hB : B ≤ lb) (hn : d.log.length ≤ 100000) : Calls Try.prog 122 #[.pointer (some ⟨lb, 0, none⟩), .pointer (some ⟨db, 0, none⟩)] W (LkR B L lb W (l.beg d)) := by
  obtain ⟨kd, me, all, at_, x, y⟩ := l
  dsimp only at hk
  subst hk
  have hl0 : Blk W lb 156 [.int .i64 me, .int .i64 all, .int .i64 at_, .int .i64 x, .int .i64 y] := hl
  have l0_0 : W.cell? ⟨lb, 0, none⟩ = some (.int .i64 me) := hl0.cell rfl
  have l1_0 : W.cell? ⟨lb, 1, none⟩ = some (.int .i64 all) := hl0.cell rfl
  have l2_0 : W.cell? ⟨lb, 2, none⟩ = some (.int .i64 at_) := hl0.cell rfl
  have l3_0 : W.cell? ⟨lb, 3, none⟩ = some (.int .i64 x) := hl0.cell rfl
  have l4_0 : W.cell? ⟨lb, 4, none⟩ = some (.int .i64 y) := hl0.cell rfl
  have g2_0 := hl0.frozen 2
  have g3_0 := hl0.frozen 3
  have g4_0 := hl0.frozen 4
  have HD0 := Lib.hid h
  have HK0 := Lib.hid hd
  have HL0 := Lib.hid hl0
  have HF0 : Hid (Fr (fun b => b = lb) B W W) := Fr.refl _ _ _
  clear h hd hl hl0
  have e1 : Lk.beg ⟨5, me, all, at_, x, y⟩ d = bif decide (1 < all) then (false, ⟨5, me, all, 0, 1, y⟩, d) else (true, ⟨5, me, all, 0, 1, y⟩, d.point) := rfl
  rw [e1]
  clear e1
  cases hz : decide (1 < all) with
  | true =>
    have HZ := Lib.hid hz
    have z1 : 1 < all := of_decide_eq_true hz
    go_enter Try.func122, Try.ntmps122
    go_wp2_with fail
    go_ret
    exact ⟨rfl, ⟨_, _, ((HD0.out.off HL0.out rfl 2 _).off (HL0.out.set_ 2 (.int .i64 0)) rfl 3 _)⟩, ((HL0.out.set_ 2 (.int .i64 0)).set_ 3 (.int .i64 1)), ((HF0.out.here hB _ _).here hB _ _)⟩
  | false =>
    have HZ := Lib.hid hz
    have z1 : ¬ 1 < all := of_decide_eq_false hz
    go_enter Try.func122, Try.ntmps122
    go_wp2_with fail
    have hd := ((HD0.out.off HL0.out rfl 2 (.int .i64 0)).off (HL0.out.set_ 2 (.int .i64 0)) rfl 3 (.int .i64 1))
    have hk := ((HK0.out.far (p := ⟨lb, 2, none⟩) (HK0.out.blk_ne HL0.out (by decide)) (.int .i64 0)).far (p := ⟨lb, 3, none⟩) (HK0.out.blk_ne HL0.out (by decide)) (.int .i64 1))
    have hl : Blk ((W.setCell ⟨lb, 2, none⟩ (.int .i64 0)).setCell ⟨lb, 3, none⟩ (.int .i64 1)) lb 156 [.int .i64 me, .int .i64 all, .int .i64 0, .int .i64 1, .int .i64 y] := ((HL0.out.set_ 2 (.int .i64 0)).set_ 3 (.int .i64 1))
    have hf := ((HF0.out.here hB 2 (.int .i64 0)).here hB 3 (.int .i64 1))
    generalize ((W.setCell ⟨lb, 2, none⟩ (.int .i64 0)).setCell ⟨lb, 3, none⟩ (.int .i64 1)) = w1 at hd hk hl hf ⊢
    have l0_1 : w1.cell? ⟨lb, 0, none⟩ = some (.int .i64 me) := hl.cell rfl
    have l1_1 : w1.cell? ⟨lb, 1, none⟩ = some (.int .i64 all) := hl.cell rfl
    have l2_1 : w1.cell? ⟨lb, 2, none⟩ = some (.int .i64 0) := hl.cell rfl
    have l3_1 : w1.cell? ⟨lb, 3, none⟩ = some (.int .i64 1) := hl.cell rfl
    have l4_1 : w1.cell? ⟨lb, 4, none⟩ = some (.int .i64 y) := hl.cell rfl
    have g2_1 := hl.frozen 2
    have g3_1 := hl.frozen 3
    have g4_1 := hl.frozen 4
    have HD1 := Lib.hid hd
    have HF1 : Hid (Fr (fun b => b = lb) B W w1) := hf
    have HL1 := Lib.hid hl
    have HK1 : Hid (Dsk w1 db L) := hk
    clear hd hf hl hk
    clear l0_0 l1_0 l2_0 l3_0 l4_0 g2_0 g3_0 g4_0
    refine (ptnow_any HD1.out HK1.out).mono ?_
    rintro e w2 ⟨rfl, ⟨vl2, va2, hd⟩, hf⟩
    have hl := hf.blk HL1.out rfl (by simp)
    have hk : Dsk w2 db L := hf.blk HK1.out rfl (by simp)
    have HD2 := Lib.hid hd
    have HF2 : Hid (Fr (fun b => b = lb) B W w2) := HF1.out.trans hf.no
    have HL2 := Lib.hid hl
    have HK2 := Lib.hid hk
    clear hd hf hl hk
    clear l0_1 l1_1 l2_1 l3_1 l4_1 g2_1 g3_1 g4_1
    go_wp2_with fail
    go_ret
    exact ⟨rfl, ⟨_, _, HD2.out⟩, HL2.out, HF2.out⟩
set_option maxRecDepth 100000 in
set_option maxHeartbeats 4000000 in
theorem filt_up (hk : l.kd = 5) (h : DM W B L vl va d) (hd : Dsk W db L) (hl : LkB W lb l) (hB : B ≤ lb) : Calls Try.prog 124 #[.pointer (some ⟨lb, 0, none⟩), .pointer (some ⟨db, 0, none⟩)] W (LkR B L lb W (l.up d)) := by
  obtain ⟨kd, me, all, at_, x, y⟩ := l
  dsimp only at hk
  subst hk
  have hl0 : Blk W lb 156 [.int .i64 me, .int .i64 all, .int .i64 at_, .int .i64 x, .int .i64 y] := hl
  have l0_0 : W.cell? ⟨lb, 0, none⟩ = some (.int .i64 me) := hl0.cell rfl
  have l1_0 : W.cell? ⟨lb, 1, none⟩ = some (.int .i64 all) := hl0.cell rfl
  have l2_0 : W.cell? ⟨lb, 2, none⟩ = some (.int .i64 at_) := hl0.cell rfl
  have l3_0 : W.cell? ⟨lb, 3, none⟩ = some (.int .i64 x) := hl0.cell rfl
  have l4_0 : W.cell? ⟨lb, 4, none⟩ = some (.int .i64 y) := hl0.cell rfl
  have g2_0 := hl0.frozen 2
  have g3_0 := hl0.frozen 3
  have g4_0 := hl0.frozen 4
  have HD0 := Lib.hid h
  have HK0 := Lib.hid hd
  have HL0 := Lib.hid hl0
  have HF0 : Hid (Fr (fun b => b = lb) B W W) := Fr.refl _ _ _
  clear h hd hl hl0
  have e1 : Lk.up ⟨5, me, all, at_, x, y⟩ d = bif decide (iw (x + 1) < all) then (false, ⟨5, me, all, 0, iw (x + 1), y⟩, d) else (true, ⟨5, me, all, 0, iw (x + 1), y⟩, d.point) := rfl
  rw [e1]
  clear e1
  go_enter Try.func124, Try.ntmps124
  go_upto_region 3 with fail
  have hd := ((HD0.out.off HL0.out rfl 2 (.int .i64 0)).off (HL0.out.set_ 2 (.int .i64 0)) rfl 3 (.int .i64 (wrap64 (x + 1))))
  have hk := ((HK0.out.far (p := ⟨lb, 2, none⟩) (HK0.out.blk_ne HL0.out (by decide)) (.int .i64 0)).far (p := ⟨lb, 3, none⟩) (HK0.out.blk_ne HL0.out (by decide)) (.int .i64 (wrap64 (x + 1))))
  have hl : Blk ((W.setCell ⟨lb, 2, none⟩ (.int .i64 0)).setCell ⟨lb, 3, none⟩ (.int .i64 (wrap64 (x + 1)))) lb 156 [.int .i64 me, .int .i64 all, .int .i64 0, .int .i64 (wrap64 (x + 1)), .int .i64 y] := ((HL0.out.set_ 2 (.int .i64 0)).set_ 3 (.int .i64 (wrap64 (x + 1))))
  have hf := ((HF0.out.here hB 2 (.int .i64 0)).here hB 3 (.int .i64 (wrap64 (x + 1))))
  generalize ((W.setCell ⟨lb, 2, none⟩ (.int .i64 0)).setCell ⟨lb, 3, none⟩ (.int .i64 (wrap64 (x + 1)))) = w1 at hd hk hl hf ⊢
  have l0_1 : w1.cell? ⟨lb, 0, none⟩ = some (.int .i64 me) := hl.cell rfl
  have l1_1 : w1.cell? ⟨lb, 1, none⟩ = some (.int .i64 all) := hl.cell rfl
  have l2_1 : w1.cell? ⟨lb, 2, none⟩ = some (.int .i64 0) := hl.cell rfl
  have l3_1 : w1.cell? ⟨lb, 3, none⟩ = some (.int .i64 (wrap64 (x + 1))) := hl.cell rfl
  have l4_1 : w1.cell? ⟨lb, 4, none⟩ = some (.int .i64 y) := hl.cell rfl
  have g2_1 := hl.frozen 2
  have g3_1 := hl.frozen 3
  have g4_1 := hl.frozen 4
  have HD1 := Lib.hid hd
  have HF1 : Hid (Fr (fun b => b = lb) B W w1) := hf
  have HL1 := Lib.hid hl
  have HK1 : Hid (Dsk w1 db L) := hk
  clear hd hf hl hk
  clear l0_0 l1_0 l2_0 l3_0 l4_0 g2_0 g3_0 g4_0
  cases hz : decide (iw (x + 1) < all) with
  | true =>
    have z1 : wrap64 (x + 1) < all := of_decide_eq_true hz
    go_region
    go_wp2_with fail
    go_ret
    rw [hz]
    exact ⟨rfl, ⟨_, _, HD1.out.on (Below.refl _ _).drew⟩, HL1.out, HF1.out.drew⟩
  | false =>
    have z1 : ¬ wrap64 (x + 1) < all := of_decide_eq_false hz
    go_region
    go_wp2_with fail
    refine (ptnow_any (HD1.out.on (Below.refl _ _).drew) HK1.out).mono ?_
    rintro e w2 ⟨rfl, ⟨vl2, va2, hd⟩, hf⟩
    have hl := hf.blk HL1.out rfl (by simp)
    have HD2 := Lib.hid hd
    have HL2 := Lib.hid hl
    have HF2 : Hid (Fr (fun b => b = lb) B W w2) := HF1.out.drew.trans hf.no
    clear hd hl hf
    go_wp2_with fail
    go_ret
    rw [hz]
    exact ⟨rfl, ⟨_, _, HD2.out⟩, HL2.out, HF2.out⟩
theorem up_keeps (l : Lk) (d : Dk) : (l.up d).2.1 = { l with at_ := 0, x := iw (l.x + 1) } := by unfold Lk.up; cases decide (iw (l.x + 1) < l.all) <;> rfl
set_option maxRecDepth 100000 in
set_option maxHeartbeats 8000000 in
theorem filt_a0 {me all at_ x y : Int} (a0 : (at_ == 0) = true) (h : DM W B L vl va d) (hd : Dsk W db L) (hl0 : Blk W lb 156 [.int .i64 me, .int .i64 all, .int .i64 at_, .int .i64 x, .int .i64 y]) (hB : B ≤ lb) (hn : d.log.length ≤ 100000) : Calls Try.prog 121 #[.pointer (some ⟨lb, 0, none⟩), .pointer (some ⟨db, 0, none⟩)] W (LkR B L lb W (Lk.filtA ⟨5, me, all, at_, x, y⟩ d)) := by
  have l0_0 : W.cell? ⟨lb, 0, none⟩ = some (.int .i64 me) := hl0.cell rfl
  have l1_0 : W.cell? ⟨lb, 1, none⟩ = some (.int .i64 all) := hl0.cell rfl
  have l2_0 : W.cell? ⟨lb, 2, none⟩ = some (.int .i64 at_) := hl0.cell rfl
  have l3_0 : W.cell? ⟨lb, 3, none⟩ = some (.int .i64 x) := hl0.cell rfl
  have l4_0 : W.cell? ⟨lb, 4, none⟩ = some (.int .i64 y) := hl0.cell rfl
  have g2_0 := hl0.frozen 2
  have g3_0 := hl0.frozen 3
  have g4_0 := hl0.frozen 4
  have HD0 := Lib.hid h
  have HK0 := Lib.hid hd
  have HL0 := Lib.hid hl0
  have HF0 : Hid (Fr (fun b => b = lb) B W W) := Fr.refl _ _ _
  clear h hd hl0
  have e1 : Lk.filtA ⟨5, me, all, at_, x, y⟩ d = (false, ⟨5, me, all, 1, x, y⟩, d.store (iw (1 + me)) (uw x)) := by unfold Lk.filtA; dsimp only; rw [a0]; rfl
  rw [e1]
  clear e1
  go_enter Try.func121, Try.ntmps121
  go_upto_region 6 with fail
  refine wp_region_held_drew (S := fun W => W.cell? ⟨lb, 0, none⟩ = some (.int .i64 me) ∧ W.cell? ⟨lb, 3, none⟩ = some (.int .i64 x)) (by kernel_rfl) ⟨l0_0, l3_0⟩ (fun hS => ?_)
  iterate 12 (refine tkF 0 (v := ?_) ?_ ?_; rotate_left; · (intro W hSw; (try dsimp only at hSw); go_simp; try with_reducible rfl); try simp only [Act.put, List.setIfInBounds_toArray, List.set_cons_zero, List.set_cons_succ])
  refine rd 12 fun K1 hK1 => ?_
  go_simp
  go_at_call 105
  try simp only [IntWalk.i64_left]
  refine (dstore_any (HD0.out.on (Below.refl _ _).drew) HK0.out hn (iw (1 + me)) (uw x)).mono ?_
  rintro e w1 ⟨rfl, ⟨vl1, va1, hd⟩, hf⟩
  have hl := hf.blk HL0.out rfl (by simp)
  have hk : Dsk w1 db L := hf.blk HK0.out rfl (by simp)
  have l0_1 : w1.cell? ⟨lb, 0, none⟩ = some (.int .i64 me) := hl.cell rfl
  have l1_1 : w1.cell? ⟨lb, 1, none⟩ = some (.int .i64 all) := hl.cell rfl
  have l2_1 : w1.cell? ⟨lb, 2, none⟩ = some (.int .i64 at_) := hl.cell rfl
  have l3_1 : w1.cell? ⟨lb, 3, none⟩ = some (.int .i64 x) := hl.cell rfl
  have l4_1 : w1.cell? ⟨lb, 4, none⟩ = some (.int .i64 y) := hl.cell rfl
  have g2_1 := hl.frozen 2
  have g3_1 := hl.frozen 3
  have g4_1 := hl.frozen 4
  have HD1 := Lib.hid hd
  have HF1 : Hid (Fr (fun b => b = lb) B W w1) := (HF0.out.drew).trans hf.no
  have HL1 := Lib.hid hl
  have HK1 := Lib.hid hk
  refine hK1.out _ _ ⟨l0_1, l3_1⟩ (fun _ => ?_)
  clear hd hf hl hk
  refine wpAnyH_done (by kernel_rfl) ?_ _
  clear l0_0 l1_0 l2_0 l3_0 l4_0 g2_0 g3_0 g4_0
  go_wp2_with fail
  go_ret
  exact ⟨rfl, ⟨_, _, (HD1.out.off HL1.out rfl 2 _)⟩, (HL1.out.set_ 2 (.int .i64 1)), (HF1.out.here hB _ _)⟩
set_option maxRecDepth 100000 in
set_option maxHeartbeats 8000000 in
theorem filt_a1 {me all at_ x y : Int} (a0 : (at_ == 0) = false) (a1 : (at_ == 1) = true) (h : DM W B L vl va d) (hd : Dsk W db L) (hl0 : Blk W lb 156 [.int .i64 me, .int .i64 all, .int .i64 at_, .int .i64 x, .int .i64 y]) (hB : B ≤ lb) (hn : d.log.length ≤ 100000) : Calls Try.prog 121 #[.pointer (some ⟨lb, 0, none⟩), .pointer (some ⟨db, 0, none⟩)] W (LkR B L lb W (Lk.filtA ⟨5, me, all, at_, x, y⟩ d)) := by
  have l0_0 : W.cell? ⟨lb, 0, none⟩ = some (.int .i64 me) := hl0.cell rfl
  have l1_0 : W.cell? ⟨lb, 1, none⟩ = some (.int .i64 all) := hl0.cell rfl
  have l2_0 : W.cell? ⟨lb, 2, none⟩ = some (.int .i64 at_) := hl0.cell rfl
  have l3_0 : W.cell? ⟨lb, 3, none⟩ = some (.int .i64 x) := hl0.cell rfl
  have l4_0 : W.cell? ⟨lb, 4, none⟩ = some (.int .i64 y) := hl0.cell rfl
  have g2_0 := hl0.frozen 2
  have g3_0 := hl0.frozen 3
  have g4_0 := hl0.frozen 4
  have HD0 := Lib.hid h
  have HK0 := Lib.hid hd
  have HL0 := Lib.hid hl0
  have HF0 : Hid (Fr (fun b => b = lb) B W W) := Fr.refl _ _ _
  clear h hd hl0
  have e1 : Lk.filtA ⟨5, me, all, at_, x, y⟩ d = (false, ⟨5, me, all, 2, x, (Lk.oth ⟨5, me, all, at_, x, y⟩ (-1))⟩, d.store (iw (all + x)) (uw me)) := by unfold Lk.filtA; dsimp only; rw [a0, a1]; rfl
  rw [e1]
  clear e1
  go_enter Try.func121, Try.ntmps121
  go_upto_region 9 with fail
  refine wp_region_held_drew (S := fun W => W.cell? ⟨lb, 1, none⟩ = some (.int .i64 all) ∧ W.cell? ⟨lb, 3, none⟩ = some (.int .i64 x) ∧ W.cell? ⟨lb, 0, none⟩ = some (.int .i64 me)) (by kernel_rfl) ⟨l1_0, l3_0, l0_0⟩ (fun hS => ?_)
  iterate 17 (refine tkF 0 (v := ?_) ?_ ?_; rotate_left; · (intro W hSw; (try dsimp only at hSw); go_simp; try with_reducible rfl); try simp only [Act.put, List.setIfInBounds_toArray, List.set_cons_zero, List.set_cons_succ])
  refine rd 17 fun K1 hK1 => ?_
  go_simp
  go_at_call 105
  try simp only [IntWalk.i64_left]
  refine (dstore_any (HD0.out.on (Below.refl _ _).drew) HK0.out hn (iw (all + x)) (uw me)).mono ?_
  rintro e w1 ⟨rfl, ⟨vl1, va1, hd⟩, hf⟩
  have hl := hf.blk HL0.out rfl (by simp)
  have hk : Dsk w1 db L := hf.blk HK0.out rfl (by simp)
  have l0_1 : w1.cell? ⟨lb, 0, none⟩ = some (.int .i64 me) := hl.cell rfl
  have l1_1 : w1.cell? ⟨lb, 1, none⟩ = some (.int .i64 all) := hl.cell rfl
  have l2_1 : w1.cell? ⟨lb, 2, none⟩ = some (.int .i64 at_) := hl.cell rfl
  have l3_1 : w1.cell? ⟨lb, 3, none⟩ = some (.int .i64 x) := hl.cell rfl
  have l4_1 : w1.cell? ⟨lb, 4, none⟩ = some (.int .i64 y) := hl.cell rfl
  have g2_1 := hl.frozen 2
  have g3_1 := hl.frozen 3
  have g4_1 := hl.frozen 4
  have HD1 := Lib.hid hd
  have HF1 : Hid (Fr (fun b => b = lb) B W w1) := (HF0.out.drew).trans hf.no
  have HL1 := Lib.hid hl
  have HK1 := Lib.hid hk
  refine hK1.out _ _ ⟨l1_1, l3_1, l0_1⟩ (fun _ => ?_)
  clear hd hf hl hk
  refine wpAnyH_done (by kernel_rfl) ?_ _
  clear l0_0 l1_0 l2_0 l3_0 l4_0 g2_0 g3_0 g4_0
  go_wp2_with fail
  refine (others_any (l := ⟨5, me, all, at_, x, y⟩) l0_1 l1_1 (-1)).mono ?_
  rintro e w9 ⟨rfl, h9⟩
  replace h9 := h9.symm
  subst h9
  go_wp2_with fail
  go_ret
  exact ⟨rfl, ⟨_, _, ((HD1.out.off HL1.out rfl 2 _).off (HL1.out.set_ 2 (.int .i64 2)) rfl 4 _)⟩, ((HL1.out.set_ 2 (.int .i64 2)).set_ 4 (.int .i64 (Lk.oth ⟨5, me, all, at_, x, y⟩ (-1)))), ((HF1.out.here hB _ _).here hB _ _)⟩
set_option maxRecDepth 100000 in
set_option maxHeartbeats 8000000 in
theorem filt_a2t {me all at_ x y : Int} (a0 : (at_ == 0) = false) (a1 : (at_ == 1) = false) (a2 : (at_ == 2) = true) (hz : decide (x ≤ iw (d.load (iw (1 + y))).1) = true) (h : DM W B L vl va d) (hd : Dsk W db L) (hl0 : Blk W lb 156 [.int .i64 me, .int .i64 all, .int .i64 at_, .int .i64 x, .int .i64 y]) (hB : B ≤ lb) (hn : d.log.length ≤ 100000) : Calls Try.prog 121 #[.pointer (some ⟨lb, 0, none⟩), .pointer (some ⟨db, 0, none⟩)] W (LkR B L lb W (Lk.filtA ⟨5, me, all, at_, x, y⟩ d)) := by
  have l0_0 : W.cell? ⟨lb, 0, none⟩ = some (.int .i64 me) := hl0.cell rfl
  have l1_0 : W.cell? ⟨lb, 1, none⟩ = some (.int .i64 all) := hl0.cell rfl
  have l2_0 : W.cell? ⟨lb, 2, none⟩ = some (.int .i64 at_) := hl0.cell rfl
  have l3_0 : W.cell? ⟨lb, 3, none⟩ = some (.int .i64 x) := hl0.cell rfl
  have l4_0 : W.cell? ⟨lb, 4, none⟩ = some (.int .i64 y) := hl0.cell rfl
  have g2_0 := hl0.frozen 2
  have g3_0 := hl0.frozen 3
  have g4_0 := hl0.frozen 4
  have HD0 := Lib.hid h
  have HK0 := Lib.hid hd
  have HL0 := Lib.hid hl0
  have HF0 : Hid (Fr (fun b => b = lb) B W W) := Fr.refl _ _ _
  clear h hd hl0
  have e1 : Lk.filtA ⟨5, me, all, at_, x, y⟩ d = (false, ⟨5, me, all, 3, x, y⟩, (d.load (iw (1 + y))).2) := by unfold Lk.filtA; dsimp only; rw [a0, a1, a2, hz]; rfl
  rw [e1]
  clear e1
  have z1 : x ≤ wrap64 (d.load (iw (1 + y))).1 := of_decide_eq_true hz
  go_enter Try.func121, Try.ntmps121
  go_upto_region 12 with fail
  refine wp_region_held_drew (S := fun W => W.cell? ⟨lb, 4, none⟩ = some (.int .i64 y) ∧ W.cell? ⟨lb, 3, none⟩ = some (.int .i64 x)) (by kernel_rfl) ⟨l4_0, l3_0⟩ (fun hS => ?_)
  iterate 6 (refine tkF 0 (v := ?_) ?_ ?_; rotate_left; · (intro W hSw; (try dsimp only at hSw); go_simp; try with_reducible rfl); try simp only [Act.put, List.setIfInBounds_toArray, List.set_cons_zero, List.set_cons_succ])
  iterate 4 (refine tkF 8 (v := ?_) ?_ ?_; rotate_left; · (intro W hSw; (try dsimp only at hSw); go_simp; try with_reducible rfl); try simp only [Act.put, List.setIfInBounds_toArray, List.set_cons_zero, List.set_cons_succ])
  refine rd 6 fun K1 hK1 => ?_
  go_simp
  go_at_call 93
  try simp only [IntWalk.i64_left]
  refine (dload_any (HD0.out.on (Below.refl _ _).drew) HK0.out hn (iw (1 + y))).mono ?_
  rintro e w1 ⟨rfl, ⟨vl1, va1, hd⟩, hf⟩
  have hl := hf.blk HL0.out rfl (by simp)
  have hk : Dsk w1 db L := hf.blk HK0.out rfl (by simp)
  have l0_1 : w1.cell? ⟨lb, 0, none⟩ = some (.int .i64 me) := hl.cell rfl
  have l1_1 : w1.cell? ⟨lb, 1, none⟩ = some (.int .i64 all) := hl.cell rfl
  have l2_1 : w1.cell? ⟨lb, 2, none⟩ = some (.int .i64 at_) := hl.cell rfl
  have l3_1 : w1.cell? ⟨lb, 3, none⟩ = some (.int .i64 x) := hl.cell rfl
  have l4_1 : w1.cell? ⟨lb, 4, none⟩ = some (.int .i64 y) := hl.cell rfl
  have g2_1 := hl.frozen 2
  have g3_1 := hl.frozen 3
  have g4_1 := hl.frozen 4
  have HD1 := Lib.hid hd
  have HF1 : Hid (Fr (fun b => b = lb) B W w1) := (HF0.out.drew).trans hf.no
  have HL1 := Lib.hid hl
  have HK1 := Lib.hid hk
  refine hK1.out _ _ ⟨l4_1, l3_1⟩ (fun _ => ?_)
  clear hd hf hl hk
  iterate 2 (refine tkF 0 (v := ?_) ?_ ?_; rotate_left; · (intro W hSw; (try dsimp only at hSw); go_simp; try with_reducible rfl); try simp only [Act.put, List.setIfInBounds_toArray, List.set_cons_zero, List.set_cons_succ])
  try simp only [IntWalk.i64_left]
  refine wpAnyH_done (by kernel_rfl) ?_ _
  clear l0_0 l1_0 l2_0 l3_0 l4_0 g2_0 g3_0 g4_0
  go_wp2_with fail
  go_ret
  exact ⟨rfl, ⟨_, _, (HD1.out.off HL1.out rfl 2 _)⟩, (HL1.out.set_ 2 (.int .i64 3)), (HF1.out.here hB _ _)⟩
set_option maxRecDepth 100000 in
set_option maxHeartbeats 8000000 in
theorem filt_a2y {me all at_ x y : Int} (a0 : (at_ == 0) = false) (a1 : (at_ == 1) = false) (a2 : (at_ == 2) = true) (hz : decide (x ≤ iw (d.load (iw (1 + y))).1) = false) (hy : ((Lk.oth ⟨5, me, all, at_, x, y⟩ y) == all) = true) (h : DM W B L vl va d) (hd : Dsk W db L) (hl0 : Blk W lb 156 [.int .i64 me, .int .i64 all, .int .i64 at_, .int .i64 x, .int .i64 y]) (hB : B ≤ lb) (hn : d.log.length ≤ 100000) : Calls Try.prog 121 #[.pointer (some ⟨lb, 0, none⟩), .pointer (some ⟨db, 0, none⟩)] W (LkR B L lb W (Lk.filtA ⟨5, me, all, at_, x, y⟩ d)) := by
  have l0_0 : W.cell? ⟨lb, 0, none⟩ = some (.int .i64 me) := hl0.cell rfl
  have l1_0 : W.cell? ⟨lb, 1, none⟩ = some (.int .i64 all) := hl0.cell rfl
  have l2_0 : W.cell? ⟨lb, 2, none⟩ = some (.int .i64 at_) := hl0.cell rfl
  have l3_0 : W.cell? ⟨lb, 3, none⟩ = some (.int .i64 x) := hl0.cell rfl
  have l4_0 : W.cell? ⟨lb, 4, none⟩ = some (.int .i64 y) := hl0.cell rfl
  have g2_0 := hl0.frozen 2
  have g3_0 := hl0.frozen 3
  have g4_0 := hl0.frozen 4
  have HD0 := Lib.hid h
  have HK0 := Lib.hid hd
  have HL0 := Lib.hid hl0
  have HF0 : Hid (Fr (fun b => b = lb) B W W) := Fr.refl _ _ _
  clear h hd hl0
  have e1 : Lk.filtA ⟨5, me, all, at_, x, y⟩ d = Lk.up ⟨5, me, all, at_, x, (Lk.oth ⟨5, me, all, at_, x, y⟩ y)⟩ (d.load (iw (1 + y))).2 := by unfold Lk.filtA; dsimp only; rw [a0, a1, a2, hz, hy]; rfl
  rw [e1]
  clear e1
  have z1 : ¬ x ≤ wrap64 (d.load (iw (1 + y))).1 := of_decide_eq_false hz
  go_enter Try.func121, Try.ntmps121
  go_upto_region 12 with fail
  refine wp_region_held_drew (S := fun W => W.cell? ⟨lb, 4, none⟩ = some (.int .i64 y) ∧ W.cell? ⟨lb, 3, none⟩ = some (.int .i64 x)) (by kernel_rfl) ⟨l4_0, l3_0⟩ (fun hS => ?_)
  iterate 6 (refine tkF 0 (v := ?_) ?_ ?_; rotate_left; · (intro W hSw; (try dsimp only at hSw); go_simp; try with_reducible rfl); try simp only [Act.put, List.setIfInBounds_toArray, List.set_cons_zero, List.set_cons_succ])
  iterate 4 (refine tkF 8 (v := ?_) ?_ ?_; rotate_left; · (intro W hSw; (try dsimp only at hSw); go_simp; try with_reducible rfl); try simp only [Act.put, List.setIfInBounds_toArray, List.set_cons_zero, List.set_cons_succ])
  refine rd 6 fun K1 hK1 => ?_
  go_simp
  go_at_call 93
  try simp only [IntWalk.i64_left]
  refine (dload_any (HD0.out.on (Below.refl _ _).drew) HK0.out hn (iw (1 + y))).mono ?_
  rintro e w1 ⟨rfl, ⟨vl1, va1, hd⟩, hf⟩
  have hl := hf.blk HL0.out rfl (by simp)
  have hk : Dsk w1 db L := hf.blk HK0.out rfl (by simp)
  have l0_1 : w1.cell? ⟨lb, 0, none⟩ = some (.int .i64 me) := hl.cell rfl
  have l1_1 : w1.cell? ⟨lb, 1, none⟩ = some (.int .i64 all) := hl.cell rfl
  have l2_1 : w1.cell? ⟨lb, 2, none⟩ = some (.int .i64 at_) := hl.cell rfl
  have l3_1 : w1.cell? ⟨lb, 3, none⟩ = some (.int .i64 x) := hl.cell rfl
  have l4_1 : w1.cell? ⟨lb, 4, none⟩ = some (.int .i64 y) := hl.cell rfl
  have g2_1 := hl.frozen 2
  have g3_1 := hl.frozen 3
  have g4_1 := hl.frozen 4
  have HD1 := Lib.hid hd
  have HF1 : Hid (Fr (fun b => b = lb) B W w1) := (HF0.out.drew).trans hf.no
  have HL1 := Lib.hid hl
  have HK1 := Lib.hid hk
  refine hK1.out _ _ ⟨l4_1, l3_1⟩ (fun _ => ?_)
  clear hd hf hl hk
  iterate 2 (refine tkF 0 (v := ?_) ?_ ?_; rotate_left; · (intro W hSw; (try dsimp only at hSw); go_simp; try with_reducible rfl); try simp only [Act.put, List.setIfInBounds_toArray, List.set_cons_zero, List.set_cons_succ])
  try simp only [IntWalk.i64_left]
  refine wpAnyH_done (by kernel_rfl) ?_ _
  clear l0_0 l1_0 l2_0 l3_0 l4_0 g2_0 g3_0 g4_0
  go_upto_region 15 with fail
  try simp only [Act.put, List.setIfInBounds_toArray, List.set_cons_zero, List.set_cons_succ]
  go_cut [4] (fun s4 wc => s4 = .bool false ∧ (∃ vl va, DM wc B L vl va (d.load (iw (1 + y))).2) ∧ Blk wc lb 156 [.int .i64 me, .int .i64 all, .int .i64 at_, .int .i64 x, .int .i64 (Lk.oth ⟨5, me, all, at_, x, y⟩ y)] ∧ Dsk wc db L ∧ Fr (fun b => b = lb) B W wc)
  case first =>
    go_region_with (go_at_call 111; refine (others_any (l := ⟨5, me, all, at_, x, y⟩) (by assumption) (by assumption) y).mono ?_; rintro e w9 ⟨rfl, h9⟩; replace h9 := h9.symm; subst h9)
    all_goals (go_wp2_with fail; go_meet)
    all_goals exact ⟨rfl, ⟨_, _, (HD1.out.off HL1.out rfl 4 _).on (Below.refl _ _).drew⟩, HL1.out.set_ 4 _, HK1.out.far (p := ⟨lb, 4, none⟩) (HK1.out.blk_ne HL1.out (by decide)) _, (HF1.out.here hB _ _).drew⟩
  case rest =>
    obtain ⟨rfl, ⟨vl2, va2, hd⟩, hl, hk, hf⟩ := hcut
    obtain ⟨w2, rfl⟩ : ∃ w2 : World, w2 = wc := ⟨_, rfl⟩
    have HL2 := Lib.hid hl
    have hy2 : (Lk.oth ⟨5, me, all, at_, x, y⟩ y) = all := by simpa using hy
    rw [hy2] at hl
    have HY := Lib.hid hy2
    clear hy2
    have l0_2 : w2.cell? ⟨lb, 0, none⟩ = some (.int .i64 me) := hl.cell rfl
    have l1_2 : w2.cell? ⟨lb, 1, none⟩ = some (.int .i64 all) := hl.cell rfl
    have l2_2 : w2.cell? ⟨lb, 2, none⟩ = some (.int .i64 at_) := hl.cell rfl
    have l3_2 : w2.cell? ⟨lb, 3, none⟩ = some (.int .i64 x) := hl.cell rfl
    have l4_2 : w2.cell? ⟨lb, 4, none⟩ = some (.int .i64 all) := hl.cell rfl
    have HD2 := Lib.hid hd
    have HK2 : Hid (Dsk w2 db L) := hk
    have HF2 : Hid (Fr (fun b => b = lb) B W w2) := hf
    clear hd hk hf hl
    clear l0_1 l1_1 l2_1 l3_1 l4_1 g2_1 g3_1 g4_1
    go_upto_region 16 with fail
    refine wp_region_held_drew (S := fun W => W.cell? ⟨lb, 1, none⟩ = some (.int .i64 all) ∧ W.cell? ⟨lb, 4, none⟩ = some (.int .i64 all)) (by kernel_rfl) ⟨l1_2, l4_2⟩ (fun hS => ?_)
    iterate 10 (refine tkF 0 (v := ?_) ?_ ?_; rotate_left; · (intro W hSw; (try dsimp only at hSw); go_simp; try with_reducible rfl); try simp only [Act.put, List.setIfInBounds_toArray, List.set_cons_zero, List.set_cons_succ])
    simp only [Act.put, List.setIfInBounds_toArray, List.set_cons_zero, List.set_cons_succ]
    iterate 3 (refine tkF 0 (v := ?_) ?_ ?_; rotate_left; · (intro W hSw; (try dsimp only at hSw); go_simp; try with_reducible rfl); try simp only [Act.put, List.setIfInBounds_toArray, List.set_cons_zero, List.set_cons_succ])
    simp only [Act.put, List.setIfInBounds_toArray, List.set_cons_zero, List.set_cons_succ]
    refine rd 13 fun K3 hK3 => ?_
    go_simp
    go_at_call 124
    refine (filt_up (l := ⟨5, me, all, at_, x, (Lk.oth ⟨5, me, all, at_, x, y⟩ y)⟩) rfl (HD2.out.on (Below.refl _ _).drew) HK2.out HL2.out hB).mono ?_
    rintro e w3 ⟨rfl, ⟨vl3, va3, hd⟩, hl, hf⟩
    have HL3 := Lib.hid hl
    have hl3 : Blk w3 lb 156 [.int .i64 me, .int .i64 all, .int .i64 0, .int .i64 (iw (x + 1)), .int .i64 all] := by
      have h9 := hl
      rw [up_keeps] at h9
      rw [← HY.out]
      rw [HY.out] at h9 ⊢
      exact h9
    refine hK3.out _ _ ⟨hl3.cell rfl, hl3.cell rfl⟩ (fun _ => ?_)
    have HD3 := Lib.hid hd
    have HF3 : Hid (Fr (fun b => b = lb) B W w3) := HF2.out.drew.trans hf
    clear hd hl hf hl3
    iterate 2 (refine tkF 0 (v := ?_) ?_ ?_; rotate_left; · (intro W hSw; (try dsimp only at hSw); go_simp; try with_reducible rfl); try simp only [Act.put, List.setIfInBounds_toArray, List.set_cons_zero, List.set_cons_succ])
    refine wpAnyH_done (by kernel_rfl) ?_ _
    go_wp2_with fail
    go_ret
    exact ⟨rfl, ⟨_, _, HD3.out⟩, HL3.out, HF3.out⟩
set_option maxRecDepth 100000 in
set_option maxHeartbeats 8000000 in
theorem filt_a2n {me all at_ x y : Int} (a0 : (at_ == 0) = false) (a1 : (at_ == 1) = false) (a2 : (at_ == 2) = true) (hz : decide (x ≤ iw (d.load (iw (1 + y))).1) = false) (hy : ((Lk.oth ⟨5, me, all, at_, x, y⟩ y) == all) = false) (h : DM W B L vl va d) (hd : Dsk W db L) (hl0 : Blk W lb 156 [.int .i64 me, .int .i64 all, .int .i64 at_, .int .i64 x, .int .i64 y]) (hB : B ≤ lb) (hn : d.log.length ≤ 100000) : Calls Try.prog 121 #[.pointer (some ⟨lb, 0, none⟩), .pointer (some ⟨db, 0, none⟩)] W (LkR B L lb W (Lk.filtA ⟨5, me, all, at_, x, y⟩ d)) := by
  have l0_0 : W.cell? ⟨lb, 0, none⟩ = some (.int .i64 me) := hl0.cell rfl
  have l1_0 : W.cell? ⟨lb, 1, none⟩ = some (.int .i64 all) := hl0.cell rfl
  have l2_0 : W.cell? ⟨lb, 2, none⟩ = some (.int .i64 at_) := hl0.cell rfl
  have l3_0 : W.cell? ⟨lb, 3, none⟩ = some (.int .i64 x) := hl0.cell rfl
  have l4_0 : W.cell? ⟨lb, 4, none⟩ = some (.int .i64 y) := hl0.cell rfl
  have g2_0 := hl0.frozen 2
  have g3_0 := hl0.frozen 3
  have g4_0 := hl0.frozen 4
  have HD0 := Lib.hid h
  have HK0 := Lib.hid hd
  have HL0 := Lib.hid hl0
  have HF0 : Hid (Fr (fun b => b = lb) B W W) := Fr.refl _ _ _
  clear h hd hl0
  have e1 : Lk.filtA ⟨5, me, all, at_, x, y⟩ d = (false, ⟨5, me, all, at_, x, (Lk.oth ⟨5, me, all, at_, x, y⟩ y)⟩, (d.load (iw (1 + y))).2) := by unfold Lk.filtA; dsimp only; rw [a0, a1, a2, hz, hy]; rfl
  rw [e1]
  clear e1
  have z1 : ¬ x ≤ wrap64 (d.load (iw (1 + y))).1 := of_decide_eq_false hz
  go_enter Try.func121, Try.ntmps121
  go_upto_region 12 with fail
  refine wp_region_held_drew (S := fun W => W.cell? ⟨lb, 4, none⟩ = some (.int .i64 y) ∧ W.cell? ⟨lb, 3, none⟩ = some (.int .i64 x)) (by kernel_rfl) ⟨l4_0, l3_0⟩ (fun hS => ?_)
  iterate 6 (refine tkF 0 (v := ?_) ?_ ?_; rotate_left; · (intro W hSw; (try dsimp only at hSw); go_simp; try with_reducible rfl); try simp only [Act.put, List.setIfInBounds_toArray, List.set_cons_zero, List.set_cons_succ])
  iterate 4 (refine tkF 8 (v := ?_) ?_ ?_; rotate_left; · (intro W hSw; (try dsimp only at hSw); go_simp; try with_reducible rfl); try simp only [Act.put, List.setIfInBounds_toArray, List.set_cons_zero, List.set_cons_succ])
  refine rd 6 fun K1 hK1 => ?_
  go_simp
  go_at_call 93
  try simp only [IntWalk.i64_left]
  refine (dload_any (HD0.out.on (Below.refl _ _).drew) HK0.out hn (iw (1 + y))).mono ?_
  rintro e w1 ⟨rfl, ⟨vl1, va1, hd⟩, hf⟩
  have hl := hf.blk HL0.out rfl (by simp)
  have hk : Dsk w1 db L := hf.blk HK0.out rfl (by simp)
  have l0_1 : w1.cell? ⟨lb, 0, none⟩ = some (.int .i64 me) := hl.cell rfl
  have l1_1 : w1.cell? ⟨lb, 1, none⟩ = some (.int .i64 all) := hl.cell rfl
  have l2_1 : w1.cell? ⟨lb, 2, none⟩ = some (.int .i64 at_) := hl.cell rfl
  have l3_1 : w1.cell? ⟨lb, 3, none⟩ = some (.int .i64 x) := hl.cell rfl
  have l4_1 : w1.cell? ⟨lb, 4, none⟩ = some (.int .i64 y) := hl.cell rfl
  have g2_1 := hl.frozen 2
  have g3_1 := hl.frozen 3
  have g4_1 := hl.frozen 4
  have HD1 := Lib.hid hd
  have HF1 : Hid (Fr (fun b => b = lb) B W w1) := (HF0.out.drew).trans hf.no
  have HL1 := Lib.hid hl
  have HK1 := Lib.hid hk
  refine hK1.out _ _ ⟨l4_1, l3_1⟩ (fun _ => ?_)
  clear hd hf hl hk
  iterate 2 (refine tkF 0 (v := ?_) ?_ ?_; rotate_left; · (intro W hSw; (try dsimp only at hSw); go_simp; try with_reducible rfl); try simp only [Act.put, List.setIfInBounds_toArray, List.set_cons_zero, List.set_cons_succ])
  try simp only [IntWalk.i64_left]
  refine wpAnyH_done (by kernel_rfl) ?_ _
  clear l0_0 l1_0 l2_0 l3_0 l4_0 g2_0 g3_0 g4_0
  go_upto_region 15 with fail
  try simp only [Act.put, List.setIfInBounds_toArray, List.set_cons_zero, List.set_cons_succ]
  go_cut [4] (fun s4 wc => s4 = .bool false ∧ (∃ vl va, DM wc B L vl va (d.load (iw (1 + y))).2) ∧ Blk wc lb 156 [.int .i64 me, .int .i64 all, .int .i64 at_, .int .i64 x, .int .i64 (Lk.oth ⟨5, me, all, at_, x, y⟩ y)] ∧ Dsk wc db L ∧ Fr (fun b => b = lb) B W wc)
  case first =>
    go_region_with (go_at_call 111; refine (others_any (l := ⟨5, me, all, at_, x, y⟩) (by assumption) (by assumption) y).mono ?_; rintro e w9 ⟨rfl, h9⟩; replace h9 := h9.symm; subst h9)
    all_goals (go_wp2_with fail; go_meet)
    all_goals exact ⟨rfl, ⟨_, _, (HD1.out.off HL1.out rfl 4 _).on (Below.refl _ _).drew⟩, HL1.out.set_ 4 _, HK1.out.far (p := ⟨lb, 4, none⟩) (HK1.out.blk_ne HL1.out (by decide)) _, (HF1.out.here hB _ _).drew⟩
  case rest =>
    obtain ⟨rfl, ⟨vl2, va2, hd⟩, hl, hk, hf⟩ := hcut
    obtain ⟨w2, rfl⟩ : ∃ w2 : World, w2 = wc := ⟨_, rfl⟩
    have HL2 := Lib.hid hl
    have l0_2 : w2.cell? ⟨lb, 0, none⟩ = some (.int .i64 me) := hl.cell rfl
    have l1_2 : w2.cell? ⟨lb, 1, none⟩ = some (.int .i64 all) := hl.cell rfl
    have l2_2 : w2.cell? ⟨lb, 2, none⟩ = some (.int .i64 at_) := hl.cell rfl
    have l3_2 : w2.cell? ⟨lb, 3, none⟩ = some (.int .i64 x) := hl.cell rfl
    have l4_2 : w2.cell? ⟨lb, 4, none⟩ = some (.int .i64 (Lk.oth ⟨5, me, all, at_, x, y⟩ y)) := hl.cell rfl
    have HD2 := Lib.hid hd
    have HK2 : Hid (Dsk w2 db L) := hk
    have HF2 : Hid (Fr (fun b => b = lb) B W w2) := hf
    clear hd hk hf hl
    clear l0_1 l1_1 l2_1 l3_1 l4_1 g2_1 g3_1 g4_1
    go_upto_region 16 with fail
    go_region
    go_wp2_with fail
    go_ret
    exact ⟨rfl, ⟨_, _, HD2.out.on (Below.refl _ _).drew⟩, HL2.out, HF2.out.drew⟩
set_option maxRecDepth 100000 in
set_option maxHeartbeats 8000000 in
theorem filt_a3t {me all at_ x y : Int} (a0 : (at_ == 0) = false) (a1 : (at_ == 1) = false) (a2 : (at_ == 2) = false) (hz : ((d.load (iw (all + x))).1 == uw me) = true) (h : DM W B L vl va d) (hd : Dsk W db L) (hl0 : Blk W lb 156 [.int .i64 me, .int .i64 all, .int .i64 at_, .int .i64 x, .int .i64 y]) (hB : B ≤ lb) (hn : d.log.length ≤ 100000) : Calls Try.prog 121 #[.pointer (some ⟨lb, 0, none⟩), .pointer (some ⟨db, 0, none⟩)] W (LkR B L lb W (Lk.filtA ⟨5, me, all, at_, x, y⟩ d)) := by
  have l0_0 : W.cell? ⟨lb, 0, none⟩ = some (.int .i64 me) := hl0.cell rfl
  have l1_0 : W.cell? ⟨lb, 1, none⟩ = some (.int .i64 all) := hl0.cell rfl
  have l2_0 : W.cell? ⟨lb, 2, none⟩ = some (.int .i64 at_) := hl0.cell rfl
  have l3_0 : W.cell? ⟨lb, 3, none⟩ = some (.int .i64 x) := hl0.cell rfl
  have l4_0 : W.cell? ⟨lb, 4, none⟩ = some (.int .i64 y) := hl0.cell rfl
  have g2_0 := hl0.frozen 2
  have g3_0 := hl0.frozen 3
  have g4_0 := hl0.frozen 4
  have HD0 := Lib.hid h
  have HK0 := Lib.hid hd
  have HL0 := Lib.hid hl0
  have HF0 : Hid (Fr (fun b => b = lb) B W W) := Fr.refl _ _ _
  clear h hd hl0
  have e1 : Lk.filtA ⟨5, me, all, at_, x, y⟩ d = (false, ⟨5, me, all, 2, x, (Lk.oth ⟨5, me, all, at_, x, y⟩ (-1))⟩, (d.load (iw (all + x))).2) := by unfold Lk.filtA; dsimp only; rw [a0, a1, a2, hz]; rfl
  rw [e1]
  clear e1
  have z1 : ((d.load (iw (all + x))).1 != IntKind.u64.wrap me) = false := by rw [bne, hz]; rfl
  go_enter Try.func121, Try.ntmps121
  go_upto_region 2 with fail
  refine wp_region_held_drew (S := fun W => W.cell? ⟨lb, 1, none⟩ = some (.int .i64 all) ∧ W.cell? ⟨lb, 3, none⟩ = some (.int .i64 x) ∧ W.cell? ⟨lb, 0, none⟩ = some (.int .i64 me)) (by kernel_rfl) ⟨l1_0, l3_0, l0_0⟩ (fun hS => ?_)
  iterate 11 (refine tkF 0 (v := ?_) ?_ ?_; rotate_left; · (intro W hSw; (try dsimp only at hSw); go_simp; try with_reducible rfl); try simp only [Act.put, List.setIfInBounds_toArray, List.set_cons_zero, List.set_cons_succ])
  iterate 6 (refine tkF 12 (v := ?_) ?_ ?_; rotate_left; · (intro W hSw; (try dsimp only at hSw); go_simp; try with_reducible rfl); try simp only [Act.put, List.setIfInBounds_toArray, List.set_cons_zero, List.set_cons_succ])
  refine rd 11 fun K1 hK1 => ?_
  go_simp
  go_at_call 93
  try simp only [IntWalk.i64_left]
  refine (dload_any (HD0.out.on (Below.refl _ _).drew) HK0.out hn (iw (all + x))).mono ?_
  rintro e w1 ⟨rfl, ⟨vl1, va1, hd⟩, hf⟩
  have hl := hf.blk HL0.out rfl (by simp)
  have hk : Dsk w1 db L := hf.blk HK0.out rfl (by simp)
  have l0_1 : w1.cell? ⟨lb, 0, none⟩ = some (.int .i64 me) := hl.cell rfl
  have l1_1 : w1.cell? ⟨lb, 1, none⟩ = some (.int .i64 all) := hl.cell rfl
  have l2_1 : w1.cell? ⟨lb, 2, none⟩ = some (.int .i64 at_) := hl.cell rfl
  have l3_1 : w1.cell? ⟨lb, 3, none⟩ = some (.int .i64 x) := hl.cell rfl
  have l4_1 : w1.cell? ⟨lb, 4, none⟩ = some (.int .i64 y) := hl.cell rfl
  have g2_1 := hl.frozen 2
  have g3_1 := hl.frozen 3
  have g4_1 := hl.frozen 4
  have HD1 := Lib.hid hd
  have HF1 : Hid (Fr (fun b => b = lb) B W w1) := (HF0.out.drew).trans hf.no
  have HL1 := Lib.hid hl
  have HK1 := Lib.hid hk
  refine hK1.out _ _ ⟨l1_1, l3_1, l0_1⟩ (fun _ => ?_)
  clear hd hf hl hk
  iterate 1 (refine tkF 0 (v := ?_) ?_ ?_; rotate_left; · (intro W hSw; (try dsimp only at hSw); go_simp; try with_reducible rfl); try simp only [Act.put, List.setIfInBounds_toArray, List.set_cons_zero, List.set_cons_succ])
  refine wpAnyH_done (by kernel_rfl) ?_ _
  clear l0_0 l1_0 l2_0 l3_0 l4_0 g2_0 g3_0 g4_0
  go_wp2_with fail
  refine (others_any (l := ⟨5, me, all, at_, x, y⟩) l0_1 l1_1 (-1)).mono ?_
  rintro e w9 ⟨rfl, h9⟩
  replace h9 := h9.symm
  subst h9
  go_wp2_with fail
  go_ret
  exact ⟨rfl, ⟨_, _, ((HD1.out.off HL1.out rfl 2 _).off (HL1.out.set_ 2 (.int .i64 2)) rfl 4 _)⟩, ((HL1.out.set_ 2 (.int .i64 2)).set_ 4 (.int .i64 (Lk.oth ⟨5, me, all, at_, x, y⟩ (-1)))), ((HF1.out.here hB _ _).here hB _ _)⟩
set_option maxRecDepth 100000 in
set_option maxHeartbeats 8000000 in
theorem filt_a3f {me all at_ x y : Int} (a0 : (at_ == 0) = false) (a1 : (at_ == 1) = false) (a2 : (at_ == 2) = false) (hz : ((d.load (iw (all + x))).1 == uw me) = false) (h : DM W B L vl va d) (hd : Dsk W db L) (hl0 : Blk W lb 156 [.int .i64 me, .int .i64 all, .int .i64 at_, .int .i64 x, .int .i64 y]) (hB : B ≤ lb) (hn : d.log.length ≤ 100000) : Calls Try.prog 121 #[.pointer (some ⟨lb, 0, none⟩), .pointer (some ⟨db, 0, none⟩)] W (LkR B L lb W (Lk.filtA ⟨5, me, all, at_, x, y⟩ d)) := by
  have l0_0 : W.cell? ⟨lb, 0, none⟩ = some (.int .i64 me) := hl0.cell rfl
  have l1_0 : W.cell? ⟨lb, 1, none⟩ = some (.int .i64 all) := hl0.cell rfl
  have l2_0 : W.cell? ⟨lb, 2, none⟩ = some (.int .i64 at_) := hl0.cell rfl
  have l3_0 : W.cell? ⟨lb, 3, none⟩ = some (.int .i64 x) := hl0.cell rfl
  have l4_0 : W.cell? ⟨lb, 4, none⟩ = some (.int .i64 y) := hl0.cell rfl
  have g2_0 := hl0.frozen 2
  have g3_0 := hl0.frozen 3
  have g4_0 := hl0.frozen 4
  have HD0 := Lib.hid h
  have HK0 := Lib.hid hd
  have HL0 := Lib.hid hl0
  have HF0 : Hid (Fr (fun b => b = lb) B W W) := Fr.refl _ _ _
  clear h hd hl0
  have e1 : Lk.filtA ⟨5, me, all, at_, x, y⟩ d = Lk.up ⟨5, me, all, at_, x, y⟩ (d.load (iw (all + x))).2 := by unfold Lk.filtA; dsimp only; rw [a0, a1, a2, hz]; rfl
  rw [e1]
  clear e1
  have z1 : ((d.load (iw (all + x))).1 != IntKind.u64.wrap me) = true := by rw [bne, hz]; rfl
  go_enter Try.func121, Try.ntmps121
  go_upto_region 2 with fail
  refine wp_region_held_drew (S := fun W => W.cell? ⟨lb, 1, none⟩ = some (.int .i64 all) ∧ W.cell? ⟨lb, 3, none⟩ = some (.int .i64 x) ∧ W.cell? ⟨lb, 0, none⟩ = some (.int .i64 me)) (by kernel_rfl) ⟨l1_0, l3_0, l0_0⟩ (fun hS => ?_)
  iterate 11 (refine tkF 0 (v := ?_) ?_ ?_; rotate_left; · (intro W hSw; (try dsimp only at hSw); go_simp; try with_reducible rfl); try simp only [Act.put, List.setIfInBounds_toArray, List.set_cons_zero, List.set_cons_succ])
  iterate 6 (refine tkF 12 (v := ?_) ?_ ?_; rotate_left; · (intro W hSw; (try dsimp only at hSw); go_simp; try with_reducible rfl); try simp only [Act.put, List.setIfInBounds_toArray, List.set_cons_zero, List.set_cons_succ])
  refine rd 11 fun K1 hK1 => ?_
  go_simp
  go_at_call 93
  try simp only [IntWalk.i64_left]
  refine (dload_any (HD0.out.on (Below.refl _ _).drew) HK0.out hn (iw (all + x))).mono ?_
  rintro e w1 ⟨rfl, ⟨vl1, va1, hd⟩, hf⟩
  have hl := hf.blk HL0.out rfl (by simp)
  have hk : Dsk w1 db L := hf.blk HK0.out rfl (by simp)
  have l0_1 : w1.cell? ⟨lb, 0, none⟩ = some (.int .i64 me) := hl.cell rfl
  have l1_1 : w1.cell? ⟨lb, 1, none⟩ = some (.int .i64 all) := hl.cell rfl
  have l2_1 : w1.cell? ⟨lb, 2, none⟩ = some (.int .i64 at_) := hl.cell rfl
  have l3_1 : w1.cell? ⟨lb, 3, none⟩ = some (.int .i64 x) := hl.cell rfl
  have l4_1 : w1.cell? ⟨lb, 4, none⟩ = some (.int .i64 y) := hl.cell rfl
  have g2_1 := hl.frozen 2
  have g3_1 := hl.frozen 3
  have g4_1 := hl.frozen 4
  have HD1 := Lib.hid hd
  have HF1 : Hid (Fr (fun b => b = lb) B W w1) := (HF0.out.drew).trans hf.no
  have HL1 := Lib.hid hl
  have HK1 := Lib.hid hk
  refine hK1.out _ _ ⟨l1_1, l3_1, l0_1⟩ (fun _ => ?_)
  clear hd hf hl hk
  iterate 1 (refine tkF 0 (v := ?_) ?_ ?_; rotate_left; · (intro W hSw; (try dsimp only at hSw); go_simp; try with_reducible rfl); try simp only [Act.put, List.setIfInBounds_toArray, List.set_cons_zero, List.set_cons_succ])
  refine wpAnyH_done (by kernel_rfl) ?_ _
  clear l0_0 l1_0 l2_0 l3_0 l4_0 g2_0 g3_0 g4_0
  go_wp2_with fail
  refine (filt_up (l := ⟨5, me, all, at_, x, y⟩) rfl HD1.out HK1.out HL1.out hB).mono ?_
  rintro e w3 ⟨rfl, ⟨vl3, va3, hd⟩, hl, hf⟩
  have HD3 := Lib.hid hd
  have HL3 := Lib.hid hl
  have HF3 : Hid (Fr (fun b => b = lb) B W w3) := HF1.out.trans hf
  clear hd hl hf
  go_wp2_with fail
  go_ret
  exact ⟨rfl, ⟨_, _, HD3.out⟩, HL3.out, HF3.out⟩
theorem filt_acq (hk : l.kd = 5) (h : DM W B L vl va d) (hd : Dsk W db L) (hl : LkB W lb l) (hB : B ≤ lb) (hn : d.log.length ≤ 100000) : Calls Try.prog 121 #[.pointer (some ⟨lb, 0, none⟩), .pointer (some ⟨db, 0, none⟩)] W (LkR B L lb W (l.acq d)) := by
  obtain ⟨kd, me, all, at_, x, y⟩ := l
  dsimp only at hk
  subst hk
  change Calls _ _ _ _ (LkR B L lb W (Lk.filtA ⟨5, me, all, at_, x, y⟩ d))
  cases a0 : at_ == 0 with
  | true => exact filt_a0 a0 h hd hl hB hn
  | false =>
  cases a1 : at_ == 1 with
  | true => exact filt_a1 a0 a1 h hd hl hB hn
  | false =>
  cases a2 : at_ == 2 with
  | true =>
    cases hz : decide (x ≤ iw (d.load (iw (1 + y))).1) with
    | true => exact filt_a2t a0 a1 a2 hz h hd hl hB hn
    | false =>
      cases hy : (Lk.oth ⟨5, me, all, at_, x, y⟩ y) == all with
      | true => exact filt_a2y a0 a1 a2 hz hy h hd hl hB hn
      | false => exact filt_a2n a0 a1 a2 hz hy h hd hl hB hn
  | false =>
    cases hz : (d.load (iw (all + x))).1 == uw me with
    | true => exact filt_a3t a0 a1 a2 hz h hd hl hB hn
    | false => exact filt_a3f a0 a1 a2 hz h hd hl hB hn
set_option maxRecDepth 100000 in
set_option maxHeartbeats 4000000 in
theorem filt_rel (hk : l.kd = 5) (h : DM W B L vl va d) (hd : Dsk W db L) (hl : LkB W lb l) (hB : B ≤ lb) (hn : d.log.length ≤ 100000) : Calls Try.prog 123 #[.pointer (some ⟨lb, 0, none⟩), .pointer (some ⟨db, 0, none⟩)] W (LkR B L lb W (l.rel d)) := by
  obtain ⟨kd, me, all, at_, x, y⟩ := l
  dsimp only at hk
  subst hk
  have hl0 : Blk W lb 156 [.int .i64 me, .int .i64 all, .int .i64 at_, .int .i64 x, .int .i64 y] := hl
  have l0_0 : W.cell? ⟨lb, 0, none⟩ = some (.int .i64 me) := hl0.cell rfl
  have l1_0 : W.cell? ⟨lb, 1, none⟩ = some (.int .i64 all) := hl0.cell rfl
  have l2_0 : W.cell? ⟨lb, 2, none⟩ = some (.int .i64 at_) := hl0.cell rfl
  have l3_0 : W.cell? ⟨lb, 3, none⟩ = some (.int .i64 x) := hl0.cell rfl
  have l4_0 : W.cell? ⟨lb, 4, none⟩ = some (.int .i64 y) := hl0.cell rfl
  have g2_0 := hl0.frozen 2
  have g3_0 := hl0.frozen 3
  have g4_0 := hl0.frozen 4
  have HD0 := Lib.hid h
  have HK0 := Lib.hid hd
  have HL0 := Lib.hid hl0
  have HF0 : Hid (Fr (fun b => b = lb) B W W) := Fr.refl _ _ _
  clear h hd hl hl0
  have e1 : Lk.rel ⟨5, me, all, at_, x, y⟩ d = (true, ⟨5, me, all, at_, x, y⟩, d.store (iw (1 + me)) 0) := rfl
  rw [e1]
  clear e1
  go_enter Try.func123, Try.ntmps123
  go_wp2_with fail
  refine (dstore_any HD0.out HK0.out hn (iw (1 + me)) 0).mono ?_
  rintro e w1 ⟨rfl, ⟨vl1, va1, hd⟩, hf⟩
  have hl := hf.blk HL0.out rfl (by simp)
  have hk : Dsk w1 db L := hf.blk HK0.out rfl (by simp)
  have l0_1 : w1.cell? ⟨lb, 0, none⟩ = some (.int .i64 me) := hl.cell rfl
  have l1_1 : w1.cell? ⟨lb, 1, none⟩ = some (.int .i64 all) := hl.cell rfl
  have l2_1 : w1.cell? ⟨lb, 2, none⟩ = some (.int .i64 at_) := hl.cell rfl
  have l3_1 : w1.cell? ⟨lb, 3, none⟩ = some (.int .i64 x) := hl.cell rfl
  have l4_1 : w1.cell? ⟨lb, 4, none⟩ = some (.int .i64 y) := hl.cell rfl
  have g2_1 := hl.frozen 2
  have g3_1 := hl.frozen 3
  have g4_1 := hl.frozen 4
  have HD1 := Lib.hid hd
  have HF1 : Hid (Fr (fun b => b = lb) B W w1) := HF0.out.trans hf.no
  have HL1 := Lib.hid hl
  have HK1 := Lib.hid hk
  clear hd hf hl hk
  clear l0_0 l1_0 l2_0 l3_0 l4_0 g2_0 g3_0 g4_0
  go_wp2_with fail
  go_ret
  exact ⟨rfl, ⟨_, _, HD1.out⟩, HL1.out, HF1.out⟩
end
end Go.Proofs.Ytjnmlgfkiebkgaa
