/-
  The node lock: node.acquire, node.release.
-/
import Derived.Test.YtjnmlgfkiebkgaaLkf
import Derived.BigQuiet
import Derived.WalkSmall
namespace Go.Proofs.Ytjnmlgfkiebkgaa
open Go.RowKit
set_option linter.unusedVariables false
set_option linter.unusedSimpArgs false

section
variable {W : World} {B db lb : Nat} {L : DL} {vl va : Value} {d : Dk} {l : Lk}
set_option maxRecDepth 100000 in
set_option maxHeartbeats 4000000 in
theorem node_acq (hk : l.kd = 4) (h : DM W B L vl va d) (hd : Dsk W db L) (hl : LkB W lb l) (hB : B ≤ lb) (hn : d.log.length ≤ 100000) : Calls Try.prog 118 #[.pointer (some ⟨lb, 0, none⟩), .pointer (some ⟨db, 0, none⟩)] W (LkR B L lb W (l.acq d)) := by
  obtain ⟨kd, me, all, at_, x, y⟩ := l
  dsimp only at hk
  subst hk
  have hl0 : Blk W lb 153 [.int .i64 me, .int .i64 all, .int .i64 at_, .int .u64 y, .int .u64 x] := hl
  have l0_0 : W.cell? ⟨lb, 0, none⟩ = some (.int .i64 me) := hl0.cell rfl
  have l1_0 : W.cell? ⟨lb, 1, none⟩ = some (.int .i64 all) := hl0.cell rfl
  have l2_0 : W.cell? ⟨lb, 2, none⟩ = some (.int .i64 at_) := hl0.cell rfl
  have l3_0 : W.cell? ⟨lb, 3, none⟩ = some (.int .u64 y) := hl0.cell rfl
  have l4_0 : W.cell? ⟨lb, 4, none⟩ = some (.int .u64 x) := hl0.cell rfl
  have g2_0 := hl0.frozen 2
  have g3_0 := hl0.frozen 3
  have g4_0 := hl0.frozen 4
  have HD0 := Lib.hid h
  have HK0 := Lib.hid hd
  have HL0 := Lib.hid hl0
  have HF0 : Hid (Fr (fun b => b = lb) B W W) := Fr.refl _ _ _
  clear h hd hl hl0
  change Calls _ _ _ _ (LkR B L lb W (Lk.nodeA ⟨4, me, all, at_, x, y⟩ d))
  cases a0 : at_ == 0 with
  | true =>
    have e1 : Lk.nodeA ⟨4, me, all, at_, x, y⟩ d = (false, ⟨4, me, all, 1, x, y⟩, d.store (nword me) 0) := by unfold Lk.nodeA; dsimp only; rw [a0]; rfl
    rw [e1]
    clear e1
    go_enter Try.func118, Try.ntmps118
    go_wp2_with fail
    refine (word_any _ _).mono ?_
    rintro e w9 ⟨rfl, h9⟩
    replace h9 := h9.symm
    subst h9
    go_wp2_with fail
    refine (dstore_any HD0.out HK0.out hn (nword me) 0).mono ?_
    rintro e w1 ⟨rfl, ⟨vl1, va1, hd⟩, hf⟩
    have hl := hf.blk HL0.out rfl (by simp)
    have hk : Dsk w1 db L := hf.blk HK0.out rfl (by simp)
    have l0_1 : w1.cell? ⟨lb, 0, none⟩ = some (.int .i64 me) := hl.cell rfl
    have l1_1 : w1.cell? ⟨lb, 1, none⟩ = some (.int .i64 all) := hl.cell rfl
    have l2_1 : w1.cell? ⟨lb, 2, none⟩ = some (.int .i64 at_) := hl.cell rfl
    have l3_1 : w1.cell? ⟨lb, 3, none⟩ = some (.int .u64 y) := hl.cell rfl
    have l4_1 : w1.cell? ⟨lb, 4, none⟩ = some (.int .u64 x) := hl.cell rfl
    have g2_1 := hl.frozen 2
    have g3_1 := hl.frozen 3
    have g4_1 := hl.frozen 4
    have HD1 := Lib.hid hd
    have HF1 : Hid (Fr (fun b => b = lb) B W w1) := HF0.out.trans hf.no
    have HL1 := Lib.hid hl
    have HK1 := Lib.hid hk
    clear hd hf hl hk
    clear l0_0 l1_0 l2_0 l3_0 l4_0 g2_0 g3_0 g4_0
    go_wp2_with fail
    go_ret
    exact ⟨rfl, ⟨_, _, (HD1.out.off HL1.out rfl 2 _)⟩, (HL1.out.set_ 2 (.int .i64 1)), (HF1.out.here hB _ _)⟩
  | false =>
  cases a1 : at_ == 1 with
  | true =>
    have e1 : Lk.nodeA ⟨4, me, all, at_, x, y⟩ d = (false, ⟨4, me, all, 2, x, (d.load 1).1⟩, (d.load 1).2) := by unfold Lk.nodeA; dsimp only; rw [a0, a1]; rfl
    rw [e1]
    clear e1
    go_enter Try.func118, Try.ntmps118
    go_wp2_with fail
    refine (dload_any HD0.out HK0.out hn 1).mono ?_
    rintro e w1 ⟨rfl, ⟨vl1, va1, hd⟩, hf⟩
    have hl := hf.blk HL0.out rfl (by simp)
    have hk : Dsk w1 db L := hf.blk HK0.out rfl (by simp)
    have l0_1 : w1.cell? ⟨lb, 0, none⟩ = some (.int .i64 me) := hl.cell rfl
    have l1_1 : w1.cell? ⟨lb, 1, none⟩ = some (.int .i64 all) := hl.cell rfl
    have l2_1 : w1.cell? ⟨lb, 2, none⟩ = some (.int .i64 at_) := hl.cell rfl
    have l3_1 : w1.cell? ⟨lb, 3, none⟩ = some (.int .u64 y) := hl.cell rfl
    have l4_1 : w1.cell? ⟨lb, 4, none⟩ = some (.int .u64 x) := hl.cell rfl
    have g2_1 := hl.frozen 2
    have g3_1 := hl.frozen 3
    have g4_1 := hl.frozen 4
    have HD1 := Lib.hid hd
    have HF1 : Hid (Fr (fun b => b = lb) B W w1) := HF0.out.trans hf.no
    have HL1 := Lib.hid hl
    have HK1 := Lib.hid hk
    clear hd hf hl hk
    clear l0_0 l1_0 l2_0 l3_0 l4_0 g2_0 g3_0 g4_0
    go_wp2_with fail
    go_ret
    exact ⟨rfl, ⟨_, _, ((HD1.out.off HL1.out rfl 3 _).off (HL1.out.set_ 3 (.int .u64 (d.load 1).1)) rfl 2 _)⟩, ((HL1.out.set_ 3 (.int .u64 (d.load 1).1)).set_ 2 (.int .i64 2)), ((HF1.out.here hB _ _).here hB _ _)⟩
  | false =>
  cases a2 : at_ == 2 with
  | true =>
    cases y0 : y == 0 with
    | true =>
      have e1 : Lk.nodeA ⟨4, me, all, at_, x, y⟩ d = bif (d.swap 1 y (uw (iw (me + 1)))).1 then (true, ⟨4, me, all, 0, x, y⟩, (d.swap 1 y (uw (iw (me + 1)))).2.point) else (false, ⟨4, me, all, 1, x, y⟩, (d.swap 1 y (uw (iw (me + 1)))).2) := by unfold Lk.nodeA; dsimp only; rw [a0, a1, a2, y0]; rfl
      rw [e1]
      clear e1
      go_enter Try.func118, Try.ntmps118
      go_upto_region 12 with fail
      refine wp_region_held_drew (S := fun W => W.cell? ⟨lb, 0, none⟩ = some (.int .i64 me) ∧ W.cell? ⟨lb, 3, none⟩ = some (.int .u64 y)) (by kernel_rfl) ⟨l0_0, l3_0⟩ (fun hS => ?_)
      iterate 12 (refine tkF 0 (v := ?_) ?_ ?_; rotate_left; · (intro W hSw; (try dsimp only at hSw); go_simp; try with_reducible rfl); try simp only [Act.put, List.setIfInBounds_toArray, List.set_cons_zero, List.set_cons_succ])
      refine rd 12 fun K1 hK1 => ?_
      go_simp
      go_at_call 94
      try simp only [IntWalk.i64_left]
      refine (dswap_any (HD0.out.on (Below.refl _ _).drew) HK0.out hn 1 y (uw (iw (me + 1)))).mono ?_
      rintro e w1 ⟨rfl, ⟨vl1, va1, hd⟩, hf⟩
      have hl := hf.blk HL0.out rfl (by simp)
      have hk : Dsk w1 db L := hf.blk HK0.out rfl (by simp)
      have l0_1 : w1.cell? ⟨lb, 0, none⟩ = some (.int .i64 me) := hl.cell rfl
      have l1_1 : w1.cell? ⟨lb, 1, none⟩ = some (.int .i64 all) := hl.cell rfl
      have l2_1 : w1.cell? ⟨lb, 2, none⟩ = some (.int .i64 at_) := hl.cell rfl
      have l3_1 : w1.cell? ⟨lb, 3, none⟩ = some (.int .u64 y) := hl.cell rfl
      have l4_1 : w1.cell? ⟨lb, 4, none⟩ = some (.int .u64 x) := hl.cell rfl
      have g2_1 := hl.frozen 2
      have g3_1 := hl.frozen 3
      have g4_1 := hl.frozen 4
      have HD1 := Lib.hid hd
      have HF1 : Hid (Fr (fun b => b = lb) B W w1) := (HF0.out.drew).trans hf.no
      have HL1 := Lib.hid hl
      have HK1 := Lib.hid hk
      refine hK1.out _ _ ⟨l0_1, l3_1⟩ (fun _ => ?_)
      clear hd hf hl hk
      iterate 1 (refine tkF 0 (v := ?_) ?_ ?_; rotate_left; · (intro W hSw; (try dsimp only at hSw); go_simp; try with_reducible rfl); try simp only [Act.put, List.setIfInBounds_toArray, List.set_cons_zero, List.set_cons_succ])
      refine wpAnyH_done (by kernel_rfl) ?_ _
      clear l0_0 l1_0 l2_0 l3_0 l4_0 g2_0 g3_0 g4_0
      cases hs : (d.swap 1 y (uw (iw (me + 1)))).1 with
      | false =>
        have HS := Lib.hid hs
        clear hs
        go_wp2_with fail
        go_ret
        rw [HS.out]
        exact ⟨rfl, ⟨_, _, (HD1.out.off HL1.out rfl 2 _)⟩, (HL1.out.set_ 2 (.int .i64 1)), (HF1.out.here hB _ _)⟩
      | true =>
        have HS := Lib.hid hs
        clear hs
        go_wp2_with fail
        refine (ptnow_any HD1.out HK1.out).mono ?_
        rintro e w2 ⟨rfl, ⟨vl2, va2, hd⟩, hf⟩
        have hl := hf.blk HL1.out rfl (by simp)
        have hk : Dsk w2 db L := hf.blk HK1.out rfl (by simp)
        have l0_2 : w2.cell? ⟨lb, 0, none⟩ = some (.int .i64 me) := hl.cell rfl
        have l1_2 : w2.cell? ⟨lb, 1, none⟩ = some (.int .i64 all) := hl.cell rfl
        have l2_2 : w2.cell? ⟨lb, 2, none⟩ = some (.int .i64 at_) := hl.cell rfl
        have l3_2 : w2.cell? ⟨lb, 3, none⟩ = some (.int .u64 y) := hl.cell rfl
        have l4_2 : w2.cell? ⟨lb, 4, none⟩ = some (.int .u64 x) := hl.cell rfl
        have g2_2 := hl.frozen 2
        have g3_2 := hl.frozen 3
        have g4_2 := hl.frozen 4
        have HD2 := Lib.hid hd
        have HF2 : Hid (Fr (fun b => b = lb) B W w2) := HF1.out.trans hf.no
        have HL2 := Lib.hid hl
        have HK2 := Lib.hid hk
        clear hd hf hl hk
        clear l0_1 l1_1 l2_1 l3_1 l4_1 g2_1 g3_1 g4_1
        go_wp2_with fail
        go_ret
        rw [HS.out]
        exact ⟨rfl, ⟨_, _, ((HD2.out.off HL2.out rfl 2 _).off (HL2.out.set_ 2 (.int .i64 3)) rfl 2 _)⟩, ((HL2.out.set_ 2 (.int .i64 3)).set_ 2 (.int .i64 0)), ((HF2.out.here hB _ _).here hB _ _)⟩
    | false =>
      have e1 : Lk.nodeA ⟨4, me, all, at_, x, y⟩ d = bif (d.swap 1 y (uw (iw (me + 1)))).1 then (false, ⟨4, me, all, 3, x, y⟩, (d.swap 1 y (uw (iw (me + 1)))).2.point) else (false, ⟨4, me, all, 1, x, y⟩, (d.swap 1 y (uw (iw (me + 1)))).2) := by unfold Lk.nodeA; dsimp only; rw [a0, a1, a2, y0]; rfl
      rw [e1]
      clear e1
      go_enter Try.func118, Try.ntmps118
      go_upto_region 12 with fail
      refine wp_region_held_drew (S := fun W => W.cell? ⟨lb, 0, none⟩ = some (.int .i64 me) ∧ W.cell? ⟨lb, 3, none⟩ = some (.int .u64 y)) (by kernel_rfl) ⟨l0_0, l3_0⟩ (fun hS => ?_)
      iterate 12 (refine tkF 0 (v := ?_) ?_ ?_; rotate_left; · (intro W hSw; (try dsimp only at hSw); go_simp; try with_reducible rfl); try simp only [Act.put, List.setIfInBounds_toArray, List.set_cons_zero, List.set_cons_succ])
      refine rd 12 fun K1 hK1 => ?_
      go_simp
      go_at_call 94
      try simp only [IntWalk.i64_left]
      refine (dswap_any (HD0.out.on (Below.refl _ _).drew) HK0.out hn 1 y (uw (iw (me + 1)))).mono ?_
      rintro e w1 ⟨rfl, ⟨vl1, va1, hd⟩, hf⟩
      have hl := hf.blk HL0.out rfl (by simp)
      have hk : Dsk w1 db L := hf.blk HK0.out rfl (by simp)
      have l0_1 : w1.cell? ⟨lb, 0, none⟩ = some (.int .i64 me) := hl.cell rfl
      have l1_1 : w1.cell? ⟨lb, 1, none⟩ = some (.int .i64 all) := hl.cell rfl
      have l2_1 : w1.cell? ⟨lb, 2, none⟩ = some (.int .i64 at_) := hl.cell rfl
      have l3_1 : w1.cell? ⟨lb, 3, none⟩ = some (.int .u64 y) := hl.cell rfl
      have l4_1 : w1.cell? ⟨lb, 4, none⟩ = some (.int .u64 x) := hl.cell rfl
      have g2_1 := hl.frozen 2
      have g3_1 := hl.frozen 3
      have g4_1 := hl.frozen 4
      have HD1 := Lib.hid hd
      have HF1 : Hid (Fr (fun b => b = lb) B W w1) := (HF0.out.drew).trans hf.no
      have HL1 := Lib.hid hl
      have HK1 := Lib.hid hk
      refine hK1.out _ _ ⟨l0_1, l3_1⟩ (fun _ => ?_)
      clear hd hf hl hk
      iterate 1 (refine tkF 0 (v := ?_) ?_ ?_; rotate_left; · (intro W hSw; (try dsimp only at hSw); go_simp; try with_reducible rfl); try simp only [Act.put, List.setIfInBounds_toArray, List.set_cons_zero, List.set_cons_succ])
      refine wpAnyH_done (by kernel_rfl) ?_ _
      clear l0_0 l1_0 l2_0 l3_0 l4_0 g2_0 g3_0 g4_0
      cases hs : (d.swap 1 y (uw (iw (me + 1)))).1 with
      | false =>
        have HS := Lib.hid hs
        clear hs
        go_wp2_with fail
        go_ret
        rw [HS.out]
        exact ⟨rfl, ⟨_, _, (HD1.out.off HL1.out rfl 2 _)⟩, (HL1.out.set_ 2 (.int .i64 1)), (HF1.out.here hB _ _)⟩
      | true =>
        have HS := Lib.hid hs
        clear hs
        go_wp2_with fail
        refine (ptnow_any HD1.out HK1.out).mono ?_
        rintro e w2 ⟨rfl, ⟨vl2, va2, hd⟩, hf⟩
        have hl := hf.blk HL1.out rfl (by simp)
        have hk : Dsk w2 db L := hf.blk HK1.out rfl (by simp)
        have l0_2 : w2.cell? ⟨lb, 0, none⟩ = some (.int .i64 me) := hl.cell rfl
        have l1_2 : w2.cell? ⟨lb, 1, none⟩ = some (.int .i64 all) := hl.cell rfl
        have l2_2 : w2.cell? ⟨lb, 2, none⟩ = some (.int .i64 at_) := hl.cell rfl
        have l3_2 : w2.cell? ⟨lb, 3, none⟩ = some (.int .u64 y) := hl.cell rfl
        have l4_2 : w2.cell? ⟨lb, 4, none⟩ = some (.int .u64 x) := hl.cell rfl
        have g2_2 := hl.frozen 2
        have g3_2 := hl.frozen 3
        have g4_2 := hl.frozen 4
        have HD2 := Lib.hid hd
        have HF2 : Hid (Fr (fun b => b = lb) B W w2) := HF1.out.trans hf.no
        have HL2 := Lib.hid hl
        have HK2 := Lib.hid hk
        clear hd hf hl hk
        clear l0_1 l1_1 l2_1 l3_1 l4_1 g2_1 g3_1 g4_1
        go_wp2_with fail
        go_ret
        rw [HS.out]
        exact ⟨rfl, ⟨_, _, (HD2.out.off HL2.out rfl 2 _)⟩, (HL2.out.set_ 2 (.int .i64 3)), (HF2.out.here hB _ _)⟩
  | false =>
  cases a3 : at_ == 3 with
  | true =>
    have e1 : Lk.nodeA ⟨4, me, all, at_, x, y⟩ d = (false, ⟨4, me, all, 4, x, y⟩, d.store (iw (nword me + 1)) 1) := by unfold Lk.nodeA; dsimp only; rw [a0, a1, a2, a3]; rfl
    rw [e1]
    clear e1
    go_enter Try.func118, Try.ntmps118
    go_wp2_with fail
    refine (word_any _ _).mono ?_
    rintro e w9 ⟨rfl, h9⟩
    replace h9 := h9.symm
    subst h9
    go_wp2_with fail
    refine (dstore_any HD0.out HK0.out hn (iw (nword me + 1)) 1).mono ?_
    rintro e w1 ⟨rfl, ⟨vl1, va1, hd⟩, hf⟩
    have hl := hf.blk HL0.out rfl (by simp)
    have hk : Dsk w1 db L := hf.blk HK0.out rfl (by simp)
    have l0_1 : w1.cell? ⟨lb, 0, none⟩ = some (.int .i64 me) := hl.cell rfl
    have l1_1 : w1.cell? ⟨lb, 1, none⟩ = some (.int .i64 all) := hl.cell rfl
    have l2_1 : w1.cell? ⟨lb, 2, none⟩ = some (.int .i64 at_) := hl.cell rfl
    have l3_1 : w1.cell? ⟨lb, 3, none⟩ = some (.int .u64 y) := hl.cell rfl
    have l4_1 : w1.cell? ⟨lb, 4, none⟩ = some (.int .u64 x) := hl.cell rfl
    have g2_1 := hl.frozen 2
    have g3_1 := hl.frozen 3
    have g4_1 := hl.frozen 4
    have HD1 := Lib.hid hd
    have HF1 : Hid (Fr (fun b => b = lb) B W w1) := HF0.out.trans hf.no
    have HL1 := Lib.hid hl
    have HK1 := Lib.hid hk
    clear hd hf hl hk
    clear l0_0 l1_0 l2_0 l3_0 l4_0 g2_0 g3_0 g4_0
    go_wp2_with fail
    go_ret
    exact ⟨rfl, ⟨_, _, (HD1.out.off HL1.out rfl 2 _)⟩, (HL1.out.set_ 2 (.int .i64 4)), (HF1.out.here hB _ _)⟩
  | false =>
  cases a4 : at_ == 4 with
  | true =>
    have e1 : Lk.nodeA ⟨4, me, all, at_, x, y⟩ d = (false, ⟨4, me, all, 5, x, y⟩, d.store (nword (iw (iw y - 1))) (uw (iw (me + 1)))) := by unfold Lk.nodeA; dsimp only; rw [a0, a1, a2, a3, a4]; rfl
    rw [e1]
    clear e1
    go_enter Try.func118, Try.ntmps118
    go_upto_region 24 with fail
    refine wp_region_held_drew (S := fun W => W.cell? ⟨lb, 0, none⟩ = some (.int .i64 me) ∧ W.cell? ⟨lb, 3, none⟩ = some (.int .u64 y)) (by kernel_rfl) ⟨l0_0, l3_0⟩ (fun hS => ?_)
    iterate 7 (refine tkF 0 (v := ?_) ?_ ?_; rotate_left; · (intro W hSw; (try dsimp only at hSw); go_simp; try with_reducible rfl); try simp only [Act.put, List.setIfInBounds_toArray, List.set_cons_zero, List.set_cons_succ])
    iterate 7 (refine tkF 8 (v := ?_) ?_ ?_; rotate_left; · (intro W hSw; (try dsimp only at hSw); go_simp; try with_reducible rfl); try simp only [Act.put, List.setIfInBounds_toArray, List.set_cons_zero, List.set_cons_succ])
    refine rd 7 fun K1 hK1 => ?_
    go_simp
    go_at_call 120
    try simp only [IntWalk.i64_left]
    refine (word_any _ _).mono ?_
    rintro e w9 ⟨rfl, h9⟩
    replace h9 := h9.symm
    subst h9
    refine hK1.out _ _ ⟨l0_0, l3_0⟩ (fun _ => ?_)
    refine rd 15 fun K2 hK2 => ?_
    go_simp
    go_at_call 105
    try simp only [IntWalk.i64_left]
    refine (dstore_any (HD0.out.on (Below.refl _ _).drew) HK0.out hn (nword (iw (iw y - 1))) (uw (iw (me + 1)))).mono ?_
    rintro e w1 ⟨rfl, ⟨vl1, va1, hd⟩, hf⟩
    have hl := hf.blk HL0.out rfl (by simp)
    have hk : Dsk w1 db L := hf.blk HK0.out rfl (by simp)
    have l0_1 : w1.cell? ⟨lb, 0, none⟩ = some (.int .i64 me) := hl.cell rfl
    have l1_1 : w1.cell? ⟨lb, 1, none⟩ = some (.int .i64 all) := hl.cell rfl
    have l2_1 : w1.cell? ⟨lb, 2, none⟩ = some (.int .i64 at_) := hl.cell rfl
    have l3_1 : w1.cell? ⟨lb, 3, none⟩ = some (.int .u64 y) := hl.cell rfl
    have l4_1 : w1.cell? ⟨lb, 4, none⟩ = some (.int .u64 x) := hl.cell rfl
    have g2_1 := hl.frozen 2
    have g3_1 := hl.frozen 3
    have g4_1 := hl.frozen 4
    have HD1 := Lib.hid hd
    have HF1 : Hid (Fr (fun b => b = lb) B W w1) := (HF0.out.drew).trans hf.no
    have HL1 := Lib.hid hl
    have HK1 := Lib.hid hk
    refine hK2.out _ _ ⟨l0_1, l3_1⟩ (fun _ => ?_)
    clear hd hf hl hk
    refine wpAnyH_done (by kernel_rfl) ?_ _
    clear l0_0 l1_0 l2_0 l3_0 l4_0 g2_0 g3_0 g4_0
    go_wp2_with fail
    go_ret
    exact ⟨rfl, ⟨_, _, (HD1.out.off HL1.out rfl 2 _)⟩, (HL1.out.set_ 2 (.int .i64 5)), (HF1.out.here hB _ _)⟩
  | false =>
    have e1 : Lk.nodeA ⟨4, me, all, at_, x, y⟩ d = bif (d.load (iw (nword me + 1))).1 == 0 then (true, ⟨4, me, all, 0, x, y⟩, (d.load (iw (nword me + 1))).2) else (false, ⟨4, me, all, at_, x, y⟩, (d.load (iw (nword me + 1))).2) := by unfold Lk.nodeA; dsimp only; rw [a0, a1, a2, a3, a4]; rfl
    rw [e1]
    clear e1
    go_enter Try.func118, Try.ntmps118
    go_wp2_with fail
    refine (word_any _ _).mono ?_
    rintro e w9 ⟨rfl, h9⟩
    replace h9 := h9.symm
    subst h9
    go_wp2_with fail
    refine (dload_any HD0.out HK0.out hn (iw (nword me + 1))).mono ?_
    rintro e w1 ⟨rfl, ⟨vl1, va1, hd⟩, hf⟩
    have hl := hf.blk HL0.out rfl (by simp)
    have hk : Dsk w1 db L := hf.blk HK0.out rfl (by simp)
    have l0_1 : w1.cell? ⟨lb, 0, none⟩ = some (.int .i64 me) := hl.cell rfl
    have l1_1 : w1.cell? ⟨lb, 1, none⟩ = some (.int .i64 all) := hl.cell rfl
    have l2_1 : w1.cell? ⟨lb, 2, none⟩ = some (.int .i64 at_) := hl.cell rfl
    have l3_1 : w1.cell? ⟨lb, 3, none⟩ = some (.int .u64 y) := hl.cell rfl
    have l4_1 : w1.cell? ⟨lb, 4, none⟩ = some (.int .u64 x) := hl.cell rfl
    have g2_1 := hl.frozen 2
    have g3_1 := hl.frozen 3
    have g4_1 := hl.frozen 4
    have HD1 := Lib.hid hd
    have HF1 : Hid (Fr (fun b => b = lb) B W w1) := HF0.out.trans hf.no
    have HL1 := Lib.hid hl
    have HK1 := Lib.hid hk
    clear hd hf hl hk
    clear l0_0 l1_0 l2_0 l3_0 l4_0 g2_0 g3_0 g4_0
    cases hs : (d.load (iw (nword me + 1))).1 == 0 with
    | false =>
      have HS := Lib.hid hs
      go_wp2_with fail
      go_ret
      rw [HS.out]
      exact ⟨rfl, ⟨_, _, HD1.out⟩, HL1.out, HF1.out⟩
    | true =>
      have HS := Lib.hid hs
      go_wp2_with fail
      go_ret
      rw [HS.out]
      exact ⟨rfl, ⟨_, _, (HD1.out.off HL1.out rfl 2 _)⟩, (HL1.out.set_ 2 (.int .i64 0)), (HF1.out.here hB _ _)⟩
set_option maxRecDepth 100000 in
set_option maxHeartbeats 4000000 in
theorem node_rel (hk : l.kd = 4) (h : DM W B L vl va d) (hd : Dsk W db L) (hl : LkB W lb l) (hB : B ≤ lb) (hn : d.log.length ≤ 100000) : Calls Try.prog 119 #[.pointer (some ⟨lb, 0, none⟩), .pointer (some ⟨db, 0, none⟩)] W (LkR B L lb W (l.rel d)) := by
  obtain ⟨kd, me, all, at_, x, y⟩ := l
  dsimp only at hk
  subst hk
  have hl0 : Blk W lb 153 [.int .i64 me, .int .i64 all, .int .i64 at_, .int .u64 y, .int .u64 x] := hl
  have l0_0 : W.cell? ⟨lb, 0, none⟩ = some (.int .i64 me) := hl0.cell rfl
  have l1_0 : W.cell? ⟨lb, 1, none⟩ = some (.int .i64 all) := hl0.cell rfl
  have l2_0 : W.cell? ⟨lb, 2, none⟩ = some (.int .i64 at_) := hl0.cell rfl
  have l3_0 : W.cell? ⟨lb, 3, none⟩ = some (.int .u64 y) := hl0.cell rfl
  have l4_0 : W.cell? ⟨lb, 4, none⟩ = some (.int .u64 x) := hl0.cell rfl
  have g2_0 := hl0.frozen 2
  have g3_0 := hl0.frozen 3
  have g4_0 := hl0.frozen 4
  have HD0 := Lib.hid h
  have HK0 := Lib.hid hd
  have HL0 := Lib.hid hl0
  have HF0 : Hid (Fr (fun b => b = lb) B W W) := Fr.refl _ _ _
  clear h hd hl hl0
  change Calls _ _ _ _ (LkR B L lb W (Lk.nodeR ⟨4, me, all, at_, x, y⟩ d))
  by_cases a0 : at_ = 0
  · subst a0
    cases hs : (d.load (nword me)).1 != 0 with
    | true =>
      have e1 : Lk.nodeR ⟨4, me, all, 0, x, y⟩ d = (false, ⟨4, me, all, 3, (d.load (nword me)).1, y⟩, (d.load (nword me)).2) := by unfold Lk.nodeR; dsimp only; rw [hs]; rfl
      rw [e1]
      clear e1
      go_enter Try.func119, Try.ntmps119
      go_wp2_with fail
      refine (word_any _ _).mono ?_
      rintro e w9 ⟨rfl, h9⟩
      replace h9 := h9.symm
      subst h9
      go_wp2_with fail
      refine (dload_any HD0.out HK0.out hn (nword me)).mono ?_
      rintro e w1 ⟨rfl, ⟨vl1, va1, hd⟩, hf⟩
      have hl := hf.blk HL0.out rfl (by simp)
      have hk : Dsk w1 db L := hf.blk HK0.out rfl (by simp)
      have l0_1 : w1.cell? ⟨lb, 0, none⟩ = some (.int .i64 me) := hl.cell rfl
      have l1_1 : w1.cell? ⟨lb, 1, none⟩ = some (.int .i64 all) := hl.cell rfl
      have l2_1 : w1.cell? ⟨lb, 2, none⟩ = some (.int .i64 0) := hl.cell rfl
      have l3_1 : w1.cell? ⟨lb, 3, none⟩ = some (.int .u64 y) := hl.cell rfl
      have l4_1 : w1.cell? ⟨lb, 4, none⟩ = some (.int .u64 x) := hl.cell rfl
      have g2_1 := hl.frozen 2
      have g3_1 := hl.frozen 3
      have g4_1 := hl.frozen 4
      have HD1 := Lib.hid hd
      have HF1 : Hid (Fr (fun b => b = lb) B W w1) := HF0.out.trans hf.no
      have HL1 := Lib.hid hl
      have HK1 := Lib.hid hk
      clear hd hf hl hk
      clear l0_0 l1_0 l2_0 l3_0 l4_0 g2_0 g3_0 g4_0
      go_wp2_with fail
      go_ret
      exact ⟨rfl, ⟨_, _, ((HD1.out.off HL1.out rfl 4 _).off (HL1.out.set_ 4 (.int .u64 (d.load (nword me)).1)) rfl 2 _)⟩, ((HL1.out.set_ 4 (.int .u64 (d.load (nword me)).1)).set_ 2 (.int .i64 3)), ((HF1.out.here hB _ _).here hB _ _)⟩
    | false =>
      have e1 : Lk.nodeR ⟨4, me, all, 0, x, y⟩ d = (false, ⟨4, me, all, 1, (d.load (nword me)).1, y⟩, (d.load (nword me)).2) := by unfold Lk.nodeR; dsimp only; rw [hs]; rfl
      rw [e1]
      clear e1
      go_enter Try.func119, Try.ntmps119
      go_wp2_with fail
      refine (word_any _ _).mono ?_
      rintro e w9 ⟨rfl, h9⟩
      replace h9 := h9.symm
      subst h9
      go_wp2_with fail
      refine (dload_any HD0.out HK0.out hn (nword me)).mono ?_
      rintro e w1 ⟨rfl, ⟨vl1, va1, hd⟩, hf⟩
      have hl := hf.blk HL0.out rfl (by simp)
      have hk : Dsk w1 db L := hf.blk HK0.out rfl (by simp)
      have l0_1 : w1.cell? ⟨lb, 0, none⟩ = some (.int .i64 me) := hl.cell rfl
      have l1_1 : w1.cell? ⟨lb, 1, none⟩ = some (.int .i64 all) := hl.cell rfl
      have l2_1 : w1.cell? ⟨lb, 2, none⟩ = some (.int .i64 0) := hl.cell rfl
      have l3_1 : w1.cell? ⟨lb, 3, none⟩ = some (.int .u64 y) := hl.cell rfl
      have l4_1 : w1.cell? ⟨lb, 4, none⟩ = some (.int .u64 x) := hl.cell rfl
      have g2_1 := hl.frozen 2
      have g3_1 := hl.frozen 3
      have g4_1 := hl.frozen 4
      have HD1 := Lib.hid hd
      have HF1 : Hid (Fr (fun b => b = lb) B W w1) := HF0.out.trans hf.no
      have HL1 := Lib.hid hl
      have HK1 := Lib.hid hk
      clear hd hf hl hk
      clear l0_0 l1_0 l2_0 l3_0 l4_0 g2_0 g3_0 g4_0
      go_wp2_with fail
      go_ret
      exact ⟨rfl, ⟨_, _, ((HD1.out.off HL1.out rfl 4 _).off (HL1.out.set_ 4 (.int .u64 (d.load (nword me)).1)) rfl 2 _)⟩, ((HL1.out.set_ 4 (.int .u64 (d.load (nword me)).1)).set_ 2 (.int .i64 1)), ((HF1.out.here hB _ _).here hB _ _)⟩
  by_cases a2 : at_ = 2
  · subst a2
    cases hs : (d.load (nword me)).1 != 0 with
    | true =>
      have e1 : Lk.nodeR ⟨4, me, all, 2, x, y⟩ d = (false, ⟨4, me, all, 3, (d.load (nword me)).1, y⟩, (d.load (nword me)).2) := by unfold Lk.nodeR; dsimp only; rw [hs]; rfl
      rw [e1]
      clear e1
      go_enter Try.func119, Try.ntmps119
      go_wp2_with fail
      refine (word_any _ _).mono ?_
      rintro e w9 ⟨rfl, h9⟩
      replace h9 := h9.symm
      subst h9
      go_wp2_with fail
      refine (dload_any HD0.out HK0.out hn (nword me)).mono ?_
      rintro e w1 ⟨rfl, ⟨vl1, va1, hd⟩, hf⟩
      have hl := hf.blk HL0.out rfl (by simp)
      have hk : Dsk w1 db L := hf.blk HK0.out rfl (by simp)
      have l0_1 : w1.cell? ⟨lb, 0, none⟩ = some (.int .i64 me) := hl.cell rfl
      have l1_1 : w1.cell? ⟨lb, 1, none⟩ = some (.int .i64 all) := hl.cell rfl
      have l2_1 : w1.cell? ⟨lb, 2, none⟩ = some (.int .i64 2) := hl.cell rfl
      have l3_1 : w1.cell? ⟨lb, 3, none⟩ = some (.int .u64 y) := hl.cell rfl
      have l4_1 : w1.cell? ⟨lb, 4, none⟩ = some (.int .u64 x) := hl.cell rfl
      have g2_1 := hl.frozen 2
      have g3_1 := hl.frozen 3
      have g4_1 := hl.frozen 4
      have HD1 := Lib.hid hd
      have HF1 : Hid (Fr (fun b => b = lb) B W w1) := HF0.out.trans hf.no
      have HL1 := Lib.hid hl
      have HK1 := Lib.hid hk
      clear hd hf hl hk
      clear l0_0 l1_0 l2_0 l3_0 l4_0 g2_0 g3_0 g4_0
      go_wp2_with fail
      go_ret
      exact ⟨rfl, ⟨_, _, ((HD1.out.off HL1.out rfl 4 _).off (HL1.out.set_ 4 (.int .u64 (d.load (nword me)).1)) rfl 2 _)⟩, ((HL1.out.set_ 4 (.int .u64 (d.load (nword me)).1)).set_ 2 (.int .i64 3)), ((HF1.out.here hB _ _).here hB _ _)⟩
    | false =>
      have e1 : Lk.nodeR ⟨4, me, all, 2, x, y⟩ d = (false, ⟨4, me, all, 2, (d.load (nword me)).1, y⟩, (d.load (nword me)).2) := by unfold Lk.nodeR; dsimp only; rw [hs]; rfl
      rw [e1]
      clear e1
      go_enter Try.func119, Try.ntmps119
      go_wp2_with fail
      refine (word_any _ _).mono ?_
      rintro e w9 ⟨rfl, h9⟩
      replace h9 := h9.symm
      subst h9
      go_wp2_with fail
      refine (dload_any HD0.out HK0.out hn (nword me)).mono ?_
      rintro e w1 ⟨rfl, ⟨vl1, va1, hd⟩, hf⟩
      have hl := hf.blk HL0.out rfl (by simp)
      have hk : Dsk w1 db L := hf.blk HK0.out rfl (by simp)
      have l0_1 : w1.cell? ⟨lb, 0, none⟩ = some (.int .i64 me) := hl.cell rfl
      have l1_1 : w1.cell? ⟨lb, 1, none⟩ = some (.int .i64 all) := hl.cell rfl
      have l2_1 : w1.cell? ⟨lb, 2, none⟩ = some (.int .i64 2) := hl.cell rfl
      have l3_1 : w1.cell? ⟨lb, 3, none⟩ = some (.int .u64 y) := hl.cell rfl
      have l4_1 : w1.cell? ⟨lb, 4, none⟩ = some (.int .u64 x) := hl.cell rfl
      have g2_1 := hl.frozen 2
      have g3_1 := hl.frozen 3
      have g4_1 := hl.frozen 4
      have HD1 := Lib.hid hd
      have HF1 : Hid (Fr (fun b => b = lb) B W w1) := HF0.out.trans hf.no
      have HL1 := Lib.hid hl
      have HK1 := Lib.hid hk
      clear hd hf hl hk
      clear l0_0 l1_0 l2_0 l3_0 l4_0 g2_0 g3_0 g4_0
      go_wp2_with fail
      go_ret
      exact ⟨rfl, ⟨_, _, (HD1.out.off HL1.out rfl 4 _)⟩, (HL1.out.set_ 4 (.int .u64 (d.load (nword me)).1)), (HF1.out.here hB _ _)⟩
  have b0 : (at_ == 0) = false := by simp [a0]
  have b2 : (at_ == 2) = false := by simp [a2]
  cases a1 : at_ == 1 with
  | true =>
    have e1 : Lk.nodeR ⟨4, me, all, at_, x, y⟩ d = bif (d.swap 1 (uw (iw (me + 1))) 0).1 then (true, ⟨4, me, all, 0, x, y⟩, (d.swap 1 (uw (iw (me + 1))) 0).2) else (false, ⟨4, me, all, 2, x, y⟩, (d.swap 1 (uw (iw (me + 1))) 0).2) := by unfold Lk.nodeR; dsimp only; rw [b0, b2, a1]; rfl
    rw [e1]
    clear e1
    go_enter Try.func119, Try.ntmps119
    go_wp2_with fail
    refine (dswap_any HD0.out HK0.out hn 1 (uw (iw (me + 1))) 0).mono ?_
    rintro e w1 ⟨rfl, ⟨vl1, va1, hd⟩, hf⟩
    have hl := hf.blk HL0.out rfl (by simp)
    have hk : Dsk w1 db L := hf.blk HK0.out rfl (by simp)
    have l0_1 : w1.cell? ⟨lb, 0, none⟩ = some (.int .i64 me) := hl.cell rfl
    have l1_1 : w1.cell? ⟨lb, 1, none⟩ = some (.int .i64 all) := hl.cell rfl
    have l2_1 : w1.cell? ⟨lb, 2, none⟩ = some (.int .i64 at_) := hl.cell rfl
    have l3_1 : w1.cell? ⟨lb, 3, none⟩ = some (.int .u64 y) := hl.cell rfl
    have l4_1 : w1.cell? ⟨lb, 4, none⟩ = some (.int .u64 x) := hl.cell rfl
    have g2_1 := hl.frozen 2
    have g3_1 := hl.frozen 3
    have g4_1 := hl.frozen 4
    have HD1 := Lib.hid hd
    have HF1 : Hid (Fr (fun b => b = lb) B W w1) := HF0.out.trans hf.no
    have HL1 := Lib.hid hl
    have HK1 := Lib.hid hk
    clear hd hf hl hk
    clear l0_0 l1_0 l2_0 l3_0 l4_0 g2_0 g3_0 g4_0
    cases hs : (d.swap 1 (uw (iw (me + 1))) 0).1 with
    | false =>
      have HS := Lib.hid hs
      clear hs
      go_wp2_with fail
      go_ret
      rw [HS.out]
      exact ⟨rfl, ⟨_, _, (HD1.out.off HL1.out rfl 2 _)⟩, (HL1.out.set_ 2 (.int .i64 2)), (HF1.out.here hB _ _)⟩
    | true =>
      have HS := Lib.hid hs
      clear hs
      go_wp2_with fail
      go_ret
      rw [HS.out]
      exact ⟨rfl, ⟨_, _, (HD1.out.off HL1.out rfl 2 _)⟩, (HL1.out.set_ 2 (.int .i64 0)), (HF1.out.here hB _ _)⟩
  | false =>
    have e1 : Lk.nodeR ⟨4, me, all, at_, x, y⟩ d = (true, ⟨4, me, all, 0, x, y⟩, d.store (iw (nword (iw (iw x - 1)) + 1)) 0) := by unfold Lk.nodeR; dsimp only; rw [b0, b2, a1]; rfl
    rw [e1]
    clear e1
    go_enter Try.func119, Try.ntmps119
    go_wp2_with fail
    refine (word_any _ _).mono ?_
    rintro e w9 ⟨rfl, h9⟩
    replace h9 := h9.symm
    subst h9
    go_wp2_with fail
    refine (dstore_any HD0.out HK0.out hn (iw (nword (iw (iw x - 1)) + 1)) 0).mono ?_
    rintro e w1 ⟨rfl, ⟨vl1, va1, hd⟩, hf⟩
    have hl := hf.blk HL0.out rfl (by simp)
    have hk : Dsk w1 db L := hf.blk HK0.out rfl (by simp)
    have l0_1 : w1.cell? ⟨lb, 0, none⟩ = some (.int .i64 me) := hl.cell rfl
    have l1_1 : w1.cell? ⟨lb, 1, none⟩ = some (.int .i64 all) := hl.cell rfl
    have l2_1 : w1.cell? ⟨lb, 2, none⟩ = some (.int .i64 at_) := hl.cell rfl
    have l3_1 : w1.cell? ⟨lb, 3, none⟩ = some (.int .u64 y) := hl.cell rfl
    have l4_1 : w1.cell? ⟨lb, 4, none⟩ = some (.int .u64 x) := hl.cell rfl
    have g2_1 := hl.frozen 2
    have g3_1 := hl.frozen 3
    have g4_1 := hl.frozen 4
    have HD1 := Lib.hid hd
    have HF1 : Hid (Fr (fun b => b = lb) B W w1) := HF0.out.trans hf.no
    have HL1 := Lib.hid hl
    have HK1 := Lib.hid hk
    clear hd hf hl hk
    clear l0_0 l1_0 l2_0 l3_0 l4_0 g2_0 g3_0 g4_0
    go_wp2_with fail
    go_ret
    exact ⟨rfl, ⟨_, _, (HD1.out.off HL1.out rfl 2 _)⟩, (HL1.out.set_ 2 (.int .i64 0)), (HF1.out.here hB _ _)⟩
end
end Go.Proofs.Ytjnmlgfkiebkgaa
