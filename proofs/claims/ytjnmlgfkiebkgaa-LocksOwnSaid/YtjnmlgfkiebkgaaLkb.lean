/-
  The bakery: bakery.looks, bakery.acquire, bakery.release.
-/
import Derived.Test.YtjnmlgfkiebkgaaLkf
import Derived.BigQuiet
import Derived.WalkSmall
namespace Go.Proofs.Ytjnmlgfkiebkgaa
open Go.RowKit
set_option linter.unusedVariables false
set_option linter.unusedSimpArgs false

section
variable {W : World} {B db lb : Nat} {L : DL} {vl va : Value} {d : Dk} {l : Lk}
def LooksR (B db lb : Nat) (L : DL) (d : Dk) (me all at_ o y : Int) (W : World) (e : Ending) (w' : World) : Prop :=
  e = .returned (.bool (o == all)) ∧ (∃ vl va, DM w' B L vl va d) ∧ Blk w' lb 159 [.int .i64 me, .int .i64 all, .int .i64 at_, .int .i64 o, .int .i64 y] ∧ Dsk w' db L ∧ Fr (fun b => b = lb) B W w'
set_option maxRecDepth 100000 in
set_option maxHeartbeats 4000000 in
theorem looks_any {me all at_ x y o : Int} (ho : (Lk.oth ⟨6, me, all, at_, x, y⟩ x) = o) (h : DM W B L vl va d) (hd : Dsk W db L) (hl0 : Blk W lb 159 [.int .i64 me, .int .i64 all, .int .i64 at_, .int .i64 x, .int .i64 y]) (hB : B ≤ lb) : Calls Try.prog 126 #[.pointer (some ⟨lb, 0, none⟩)] W (LooksR B db lb L d me all at_ o y W) := by
  have l0_0 : W.cell? ⟨lb, 0, none⟩ = some (.int .i64 me) := hl0.cell rfl
  have l1_0 : W.cell? ⟨lb, 1, none⟩ = some (.int .i64 all) := hl0.cell rfl
  have l2_0 : W.cell? ⟨lb, 2, none⟩ = some (.int .i64 at_) := hl0.cell rfl
  have l3_0 : W.cell? ⟨lb, 3, none⟩ = some (.int .i64 x) := hl0.cell rfl
  have l4_0 : W.cell? ⟨lb, 4, none⟩ = some (.int .i64 y) := hl0.cell rfl
  have g2_0 := hl0.frozen 2
  have g3_0 := hl0.frozen 3
  have g4_0 := hl0.frozen 4
  have HD0 := Lib.hid h
  have HK0 := Lib.hid hd
  have HL0 := Lib.hid hl0
  have HO := Lib.hid ho
  clear h hd hl0 ho
  go_enter Try.func126, Try.ntmps126
  go_upto_region 1 with fail
  go_cut [2] (fun s2 wc => s2 = .bool false ∧ (∃ vl va, DM wc B L vl va d) ∧ Blk wc lb 159 [.int .i64 me, .int .i64 all, .int .i64 at_, .int .i64 o, .int .i64 y] ∧ Dsk wc db L ∧ Fr (fun b => b = lb) B W wc)
  case first =>
    go_region_with (go_at_call 111; refine (others_any (l := ⟨6, me, all, at_, x, y⟩) (by assumption) (by assumption) x).mono ?_; rintro e w9 ⟨rfl, h9⟩; replace h9 := h9.symm; subst h9; rw [HO.out])
    all_goals (go_wp2_with fail; go_meet)
    all_goals exact ⟨rfl, ⟨_, _, (HD0.out.off HL0.out rfl 3 _).on (Below.refl _ _).drew⟩, HL0.out.set_ 3 _, HK0.out.far (p := ⟨lb, 3, none⟩) (HK0.out.blk_ne HL0.out (by decide)) _, ((Fr.refl _ _ _).here hB _ _).drew⟩
  case rest =>
    obtain ⟨rfl, ⟨vl2, va2, hd⟩, hl, hk, hf⟩ := hcut
    obtain ⟨w2, rfl⟩ : ∃ w2 : World, w2 = wc := ⟨_, rfl⟩
    have l1_2 : w2.cell? ⟨lb, 1, none⟩ = some (.int .i64 all) := hl.cell rfl
    have l3_2 : w2.cell? ⟨lb, 3, none⟩ = some (.int .i64 o) := hl.cell rfl
    have HD2 := Lib.hid hd
    have HL2 := Lib.hid hl
    have HK2 : Hid (Dsk w2 db L) := hk
    have HF2 : Hid (Fr (fun b => b = lb) B W w2) := hf
    clear hd hl hk hf
    clear l0_0 l1_0 l2_0 l3_0 l4_0 g2_0 g3_0 g4_0
    go_upto_region 2 with fail
    go_region
    go_wp2_with fail
    go_ret
    exact ⟨rfl, ⟨_, _, HD2.out.on (Below.refl _ _).drew⟩, HL2.out, HK2.out, HF2.out.drew⟩
set_option maxRecDepth 100000 in
set_option maxHeartbeats 8000000 in
theorem bake_a0t {me all at_ x y : Int} (a0 : (at_ == 0) = true) (hy : ((Lk.oth ⟨6, me, all, at_, x, y⟩ (-1)) == all) = true) (h : DM W B L vl va d) (hd : Dsk W db L) (hl0 : Blk W lb 159 [.int .i64 me, .int .i64 all, .int .i64 at_, .int .i64 x, .int .i64 y]) (hB : B ≤ lb) (hn : d.log.length ≤ 100000) : Calls Try.prog 125 #[.pointer (some ⟨lb, 0, none⟩), .pointer (some ⟨db, 0, none⟩)] W (LkR B L lb W (Lk.bakeA ⟨6, me, all, at_, x, y⟩ d)) := by
  have l0_0 : W.cell? ⟨lb, 0, none⟩ = some (.int .i64 me) := hl0.cell rfl
  have l1_0 : W.cell? ⟨lb, 1, none⟩ = some (.int .i64 all) := hl0.cell rfl
  have l2_0 : W.cell? ⟨lb, 2, none⟩ = some (.int .i64 at_) := hl0.cell rfl
  have l3_0 : W.cell? ⟨lb, 3, none⟩ = some (.int .i64 x) := hl0.cell rfl
  have l4_0 : W.cell? ⟨lb, 4, none⟩ = some (.int .i64 y) := hl0.cell rfl
  have g2_0 := hl0.frozen 2
  have g3_0 := hl0.frozen 3
  have g4_0 := hl0.frozen 4
  have HD0 := Lib.hid h
  have HK0 := Lib.hid hd
  have HL0 := Lib.hid hl0
  have HF0 : Hid (Fr (fun b => b = lb) B W W) := Fr.refl _ _ _
  clear h hd hl0
  have e1 : Lk.bakeA ⟨6, me, all, at_, x, y⟩ d = (false, ⟨6, me, all, 2, (Lk.oth ⟨6, me, all, at_, x, y⟩ (-1)), 0⟩, d.store (iw (1 + iw (2 * me))) 1) := by unfold Lk.bakeA; dsimp only; rw [a0, hy]; rfl
  rw [e1]
  clear e1
  obtain ⟨o, ho⟩ : ∃ o, o = (Lk.oth ⟨6, me, all, at_, x, y⟩ (-1)) := ⟨_, rfl⟩
  rw [← ho] at hy ⊢
  have HO := Lib.hid ho
  clear ho
  go_enter Try.func125, Try.ntmps125
  go_wp2_with fail
  refine (dstore_any HD0.out HK0.out hn (iw (1 + iw (2 * me))) 1).mono ?_
  rintro e w1 ⟨rfl, ⟨vl1, va1, hd⟩, hf⟩
  have hl := hf.blk HL0.out rfl (by simp)
  have hk : Dsk w1 db L := hf.blk HK0.out rfl (by simp)
  have l0_1 : w1.cell? ⟨lb, 0, none⟩ = some (.int .i64 me) := hl.cell rfl
  have l1_1 : w1.cell? ⟨lb, 1, none⟩ = some (.int .i64 all) := hl.cell rfl
  have l2_1 : w1.cell? ⟨lb, 2, none⟩ = some (.int .i64 at_) := hl.cell rfl
  have l3_1 : w1.cell? ⟨lb, 3, none⟩ = some (.int .i64 x) := hl.cell rfl
  have l4_1 : w1.cell? ⟨lb, 4, none⟩ = some (.int .i64 y) := hl.cell rfl
  have g2_1 := hl.frozen 2
  have g3_1 := hl.frozen 3
  have g4_1 := hl.frozen 4
  have HD1 := Lib.hid hd
  have HF1 : Hid (Fr (fun b => b = lb) B W w1) := HF0.out.trans hf.no
  have HL1 := Lib.hid hl
  have HK1 := Lib.hid hk
  clear hd hf hl hk
  clear l0_0 l1_0 l2_0 l3_0 l4_0 g2_0 g3_0 g4_0
  go_wp2_with fail
  have hd := (((HD1.out.off HL1.out rfl 2 (.int .i64 1)).off (HL1.out.set_ 2 (.int .i64 1)) rfl 3 (.int .i64 (-1))).off ((HL1.out.set_ 2 (.int .i64 1)).set_ 3 (.int .i64 (-1))) rfl 4 (.int .i64 0))
  have hk := (((HK1.out.far (p := ⟨lb, 2, none⟩) (HK1.out.blk_ne HL1.out (by decide)) (.int .i64 1)).far (p := ⟨lb, 3, none⟩) (HK1.out.blk_ne HL1.out (by decide)) (.int .i64 (-1))).far (p := ⟨lb, 4, none⟩) (HK1.out.blk_ne HL1.out (by decide)) (.int .i64 0))
  have hl : Blk (((w1.setCell ⟨lb, 2, none⟩ (.int .i64 1)).setCell ⟨lb, 3, none⟩ (.int .i64 (-1))).setCell ⟨lb, 4, none⟩ (.int .i64 0)) lb 159 [.int .i64 me, .int .i64 all, .int .i64 1, .int .i64 (-1), .int .i64 0] := (((HL1.out.set_ 2 (.int .i64 1)).set_ 3 (.int .i64 (-1))).set_ 4 (.int .i64 0))
  have hf := (((HF1.out.here hB 2 (.int .i64 1)).here hB 3 (.int .i64 (-1))).here hB 4 (.int .i64 0))
  generalize (((w1.setCell ⟨lb, 2, none⟩ (.int .i64 1)).setCell ⟨lb, 3, none⟩ (.int .i64 (-1))).setCell ⟨lb, 4, none⟩ (.int .i64 0)) = w2 at hd hk hl hf ⊢
  have l0_2 : w2.cell? ⟨lb, 0, none⟩ = some (.int .i64 me) := hl.cell rfl
  have l1_2 : w2.cell? ⟨lb, 1, none⟩ = some (.int .i64 all) := hl.cell rfl
  have l2_2 : w2.cell? ⟨lb, 2, none⟩ = some (.int .i64 1) := hl.cell rfl
  have l3_2 : w2.cell? ⟨lb, 3, none⟩ = some (.int .i64 (-1)) := hl.cell rfl
  have l4_2 : w2.cell? ⟨lb, 4, none⟩ = some (.int .i64 0) := hl.cell rfl
  have g2_2 := hl.frozen 2
  have g3_2 := hl.frozen 3
  have g4_2 := hl.frozen 4
  have HD2 := Lib.hid hd
  have HF2 : Hid (Fr (fun b => b = lb) B W w2) := hf
  have HL2 := Lib.hid hl
  have HK2 : Hid (Dsk w2 db L) := hk
  clear hd hf hl hk
  clear l0_1 l1_1 l2_1 l3_1 l4_1 g2_1 g3_1 g4_1
  refine (looks_any (me := me) (all := all) (at_ := 1) (x := (-1)) (y := 0) (o := o) HO.out.symm HD2.out HK2.out HL2.out hB).mono ?_
  rintro e w3 ⟨rfl, ⟨vl3, va3, hd⟩, hl, hk, hf⟩
  have l0_3 : w3.cell? ⟨lb, 0, none⟩ = some (.int .i64 me) := hl.cell rfl
  have l1_3 : w3.cell? ⟨lb, 1, none⟩ = some (.int .i64 all) := hl.cell rfl
  have l2_3 : w3.cell? ⟨lb, 2, none⟩ = some (.int .i64 1) := hl.cell rfl
  have l3_3 : w3.cell? ⟨lb, 3, none⟩ = some (.int .i64 o) := hl.cell rfl
  have l4_3 : w3.cell? ⟨lb, 4, none⟩ = some (.int .i64 0) := hl.cell rfl
  have g2_3 := hl.frozen 2
  have g3_3 := hl.frozen 3
  have g4_3 := hl.frozen 4
  have HD3 := Lib.hid hd
  have HF3 : Hid (Fr (fun b => b = lb) B W w3) := HF2.out.trans hf
  have HL3 := Lib.hid hl
  have HK3 : Hid (Dsk w3 db L) := hk
  clear hd hf hl hk
  clear l0_2 l1_2 l2_2 l3_2 l4_2 g2_2 g3_2 g4_2
  go_wp2_with fail
  go_ret
  exact ⟨rfl, ⟨_, _, (HD3.out.off HL3.out rfl 2 _)⟩, (HL3.out.set_ 2 (.int .i64 2)), (HF3.out.here hB _ _)⟩
set_option maxRecDepth 100000 in
set_option maxHeartbeats 8000000 in
theorem bake_a0f {me all at_ x y : Int} (a0 : (at_ == 0) = true) (hy : ((Lk.oth ⟨6, me, all, at_, x, y⟩ (-1)) == all) = false) (h : DM W B L vl va d) (hd : Dsk W db L) (hl0 : Blk W lb 159 [.int .i64 me, .int .i64 all, .int .i64 at_, .int .i64 x, .int .i64 y]) (hB : B ≤ lb) (hn : d.log.length ≤ 100000) : Calls Try.prog 125 #[.pointer (some ⟨lb, 0, none⟩), .pointer (some ⟨db, 0, none⟩)] W (LkR B L lb W (Lk.bakeA ⟨6, me, all, at_, x, y⟩ d)) := by
  have l0_0 : W.cell? ⟨lb, 0, none⟩ = some (.int .i64 me) := hl0.cell rfl
  have l1_0 : W.cell? ⟨lb, 1, none⟩ = some (.int .i64 all) := hl0.cell rfl
  have l2_0 : W.cell? ⟨lb, 2, none⟩ = some (.int .i64 at_) := hl0.cell rfl
  have l3_0 : W.cell? ⟨lb, 3, none⟩ = some (.int .i64 x) := hl0.cell rfl
  have l4_0 : W.cell? ⟨lb, 4, none⟩ = some (.int .i64 y) := hl0.cell rfl
  have g2_0 := hl0.frozen 2
  have g3_0 := hl0.frozen 3
  have g4_0 := hl0.frozen 4
  have HD0 := Lib.hid h
  have HK0 := Lib.hid hd
  have HL0 := Lib.hid hl0
  have HF0 : Hid (Fr (fun b => b = lb) B W W) := Fr.refl _ _ _
  clear h hd hl0
  have e1 : Lk.bakeA ⟨6, me, all, at_, x, y⟩ d = (false, ⟨6, me, all, 1, (Lk.oth ⟨6, me, all, at_, x, y⟩ (-1)), 0⟩, d.store (iw (1 + iw (2 * me))) 1) := by unfold Lk.bakeA; dsimp only; rw [a0, hy]; rfl
  rw [e1]
  clear e1
  obtain ⟨o, ho⟩ : ∃ o, o = (Lk.oth ⟨6, me, all, at_, x, y⟩ (-1)) := ⟨_, rfl⟩
  rw [← ho] at hy ⊢
  have HO := Lib.hid ho
  clear ho
  go_enter Try.func125, Try.ntmps125
  go_wp2_with fail
  refine (dstore_any HD0.out HK0.out hn (iw (1 + iw (2 * me))) 1).mono ?_
  rintro e w1 ⟨rfl, ⟨vl1, va1, hd⟩, hf⟩
  have hl := hf.blk HL0.out rfl (by simp)
  have hk : Dsk w1 db L := hf.blk HK0.out rfl (by simp)
  have l0_1 : w1.cell? ⟨lb, 0, none⟩ = some (.int .i64 me) := hl.cell rfl
  have l1_1 : w1.cell? ⟨lb, 1, none⟩ = some (.int .i64 all) := hl.cell rfl
  have l2_1 : w1.cell? ⟨lb, 2, none⟩ = some (.int .i64 at_) := hl.cell rfl
  have l3_1 : w1.cell? ⟨lb, 3, none⟩ = some (.int .i64 x) := hl.cell rfl
  have l4_1 : w1.cell? ⟨lb, 4, none⟩ = some (.int .i64 y) := hl.cell rfl
  have g2_1 := hl.frozen 2
  have g3_1 := hl.frozen 3
  have g4_1 := hl.frozen 4
  have HD1 := Lib.hid hd
  have HF1 : Hid (Fr (fun b => b = lb) B W w1) := HF0.out.trans hf.no
  have HL1 := Lib.hid hl
  have HK1 := Lib.hid hk
  clear hd hf hl hk
  clear l0_0 l1_0 l2_0 l3_0 l4_0 g2_0 g3_0 g4_0
  go_wp2_with fail
  have hd := (((HD1.out.off HL1.out rfl 2 (.int .i64 1)).off (HL1.out.set_ 2 (.int .i64 1)) rfl 3 (.int .i64 (-1))).off ((HL1.out.set_ 2 (.int .i64 1)).set_ 3 (.int .i64 (-1))) rfl 4 (.int .i64 0))
  have hk := (((HK1.out.far (p := ⟨lb, 2, none⟩) (HK1.out.blk_ne HL1.out (by decide)) (.int .i64 1)).far (p := ⟨lb, 3, none⟩) (HK1.out.blk_ne HL1.out (by decide)) (.int .i64 (-1))).far (p := ⟨lb, 4, none⟩) (HK1.out.blk_ne HL1.out (by decide)) (.int .i64 0))
  have hl : Blk (((w1.setCell ⟨lb, 2, none⟩ (.int .i64 1)).setCell ⟨lb, 3, none⟩ (.int .i64 (-1))).setCell ⟨lb, 4, none⟩ (.int .i64 0)) lb 159 [.int .i64 me, .int .i64 all, .int .i64 1, .int .i64 (-1), .int .i64 0] := (((HL1.out.set_ 2 (.int .i64 1)).set_ 3 (.int .i64 (-1))).set_ 4 (.int .i64 0))
  have hf := (((HF1.out.here hB 2 (.int .i64 1)).here hB 3 (.int .i64 (-1))).here hB 4 (.int .i64 0))
  generalize (((w1.setCell ⟨lb, 2, none⟩ (.int .i64 1)).setCell ⟨lb, 3, none⟩ (.int .i64 (-1))).setCell ⟨lb, 4, none⟩ (.int .i64 0)) = w2 at hd hk hl hf ⊢
  have l0_2 : w2.cell? ⟨lb, 0, none⟩ = some (.int .i64 me) := hl.cell rfl
  have l1_2 : w2.cell? ⟨lb, 1, none⟩ = some (.int .i64 all) := hl.cell rfl
  have l2_2 : w2.cell? ⟨lb, 2, none⟩ = some (.int .i64 1) := hl.cell rfl
  have l3_2 : w2.cell? ⟨lb, 3, none⟩ = some (.int .i64 (-1)) := hl.cell rfl
  have l4_2 : w2.cell? ⟨lb, 4, none⟩ = some (.int .i64 0) := hl.cell rfl
  have g2_2 := hl.frozen 2
  have g3_2 := hl.frozen 3
  have g4_2 := hl.frozen 4
  have HD2 := Lib.hid hd
  have HF2 : Hid (Fr (fun b => b = lb) B W w2) := hf
  have HL2 := Lib.hid hl
  have HK2 : Hid (Dsk w2 db L) := hk
  clear hd hf hl hk
  clear l0_1 l1_1 l2_1 l3_1 l4_1 g2_1 g3_1 g4_1
  refine (looks_any (me := me) (all := all) (at_ := 1) (x := (-1)) (y := 0) (o := o) HO.out.symm HD2.out HK2.out HL2.out hB).mono ?_
  rintro e w3 ⟨rfl, ⟨vl3, va3, hd⟩, hl, hk, hf⟩
  have l0_3 : w3.cell? ⟨lb, 0, none⟩ = some (.int .i64 me) := hl.cell rfl
  have l1_3 : w3.cell? ⟨lb, 1, none⟩ = some (.int .i64 all) := hl.cell rfl
  have l2_3 : w3.cell? ⟨lb, 2, none⟩ = some (.int .i64 1) := hl.cell rfl
  have l3_3 : w3.cell? ⟨lb, 3, none⟩ = some (.int .i64 o) := hl.cell rfl
  have l4_3 : w3.cell? ⟨lb, 4, none⟩ = some (.int .i64 0) := hl.cell rfl
  have g2_3 := hl.frozen 2
  have g3_3 := hl.frozen 3
  have g4_3 := hl.frozen 4
  have HD3 := Lib.hid hd
  have HF3 : Hid (Fr (fun b => b = lb) B W w3) := HF2.out.trans hf
  have HL3 := Lib.hid hl
  have HK3 : Hid (Dsk w3 db L) := hk
  clear hd hf hl hk
  clear l0_2 l1_2 l2_2 l3_2 l4_2 g2_2 g3_2 g4_2
  go_wp2_with fail
  go_ret
  exact ⟨rfl, ⟨_, _, HD3.out⟩, HL3.out, HF3.out⟩
set_option maxRecDepth 100000 in
set_option maxHeartbeats 8000000 in
theorem bake_a1t {me all at_ x y : Int} (a0 : (at_ == 0) = false) (a1 : (at_ == 1) = true) (hm : y < iw (d.load (iw (2 + iw (2 * x)))).1) (h : DM W B L vl va d) (hd : Dsk W db L) (hl0 : Blk W lb 159 [.int .i64 me, .int .i64 all, .int .i64 at_, .int .i64 x, .int .i64 y]) (hB : B ≤ lb) (hn : d.log.length ≤ 100000) : Calls Try.prog 125 #[.pointer (some ⟨lb, 0, none⟩), .pointer (some ⟨db, 0, none⟩)] W (LkR B L lb W (Lk.bakeA ⟨6, me, all, at_, x, y⟩ d)) := by
  have l0_0 : W.cell? ⟨lb, 0, none⟩ = some (.int .i64 me) := hl0.cell rfl
  have l1_0 : W.cell? ⟨lb, 1, none⟩ = some (.int .i64 all) := hl0.cell rfl
  have l2_0 : W.cell? ⟨lb, 2, none⟩ = some (.int .i64 at_) := hl0.cell rfl
  have l3_0 : W.cell? ⟨lb, 3, none⟩ = some (.int .i64 x) := hl0.cell rfl
  have l4_0 : W.cell? ⟨lb, 4, none⟩ = some (.int .i64 y) := hl0.cell rfl
  have g2_0 := hl0.frozen 2
  have g3_0 := hl0.frozen 3
  have g4_0 := hl0.frozen 4
  have HD0 := Lib.hid h
  have HK0 := Lib.hid hd
  have HL0 := Lib.hid hl0
  have HF0 : Hid (Fr (fun b => b = lb) B W W) := Fr.refl _ _ _
  clear h hd hl0
  have at1 : at_ = 1 := by simpa using a1
  subst at1
  have m0 : max y (iw (d.load (iw (2 + iw (2 * x)))).1) = (iw (d.load (iw (2 + iw (2 * x)))).1) := by omega
  have m1 : y < IntKind.i64.wrap (d.load (iw (2 + iw (2 * x)))).1 := by rw [IntWalk.i64_left]; exact hm
  have e1 : Lk.bakeA ⟨6, me, all, 1, x, y⟩ d = (false, ⟨6, me, all, bif (Lk.oth ⟨6, me, all, 1, x, y⟩ x) == all then 2 else 1, Lk.oth ⟨6, me, all, 1, x, y⟩ x, max y (iw (d.load (iw (2 + iw (2 * x)))).1)⟩, (d.load (iw (2 + iw (2 * x)))).2) := rfl
  rw [e1, m0]
  clear e1 m0
  obtain ⟨o, ho⟩ : ∃ o, o = Lk.oth ⟨6, me, all, 1, x, y⟩ x := ⟨_, rfl⟩
  rw [← ho]
  have HO := Lib.hid ho
  clear ho
  go_enter Try.func125, Try.ntmps125
  go_upto_region 13 with fail
  go_cut [4] (fun s4 wc => s4 = .bool false ∧ (∃ vl va, DM wc B L vl va (d.load (iw (2 + iw (2 * x)))).2) ∧ Blk wc lb 159 [.int .i64 me, .int .i64 all, .int .i64 1, .int .i64 x, .int .i64 (iw (d.load (iw (2 + iw (2 * x)))).1)] ∧ Dsk wc db L ∧ Fr (fun b => b = lb) B W wc)
  case first =>
    go_region_with (go_at_call 93; simp only [IntWalk.i64_left]; refine (dload_any (HD0.out.on (Below.refl _ _).drew) HK0.out hn (iw (2 + iw (2 * x)))).mono ?_; rintro e w9 ⟨rfl, ⟨vl9, va9, hd9⟩, hf9⟩; have hl9 := hf9.blk HL0.out rfl (by simp); have hk9 : Dsk w9 db L := hf9.blk HK0.out rfl (by simp); have c4 : w9.cell? ⟨lb, 4, none⟩ = some (.int .i64 y) := hl9.cell rfl; have gg := hl9.frozen 4)
    all_goals (go_wp2_with fail; go_meet)
    all_goals try simp only [IntWalk.i64_left]
    all_goals exact ⟨by first | rfl | trivial, ⟨_, _, hd9.off hl9 rfl 4 _⟩, hl9.set_ 4 _, hk9.far (p := ⟨lb, 4, none⟩) (hk9.blk_ne hl9 (by decide)) _, ((Fr.refl _ _ _).drew.trans hf9.no).here hB _ _⟩
  case rest =>
    obtain ⟨rfl, ⟨vl2, va2, hd⟩, hl, hk, hf⟩ := hcut
    obtain ⟨w2, rfl⟩ : ∃ w2 : World, w2 = wc := ⟨_, rfl⟩
    have l0_2 : w2.cell? ⟨lb, 0, none⟩ = some (.int .i64 me) := hl.cell rfl
    have l1_2 : w2.cell? ⟨lb, 1, none⟩ = some (.int .i64 all) := hl.cell rfl
    have l2_2 : w2.cell? ⟨lb, 2, none⟩ = some (.int .i64 1) := hl.cell rfl
    have l3_2 : w2.cell? ⟨lb, 3, none⟩ = some (.int .i64 x) := hl.cell rfl
    have l4_2 : w2.cell? ⟨lb, 4, none⟩ = some (.int .i64 (iw (d.load (iw (2 + iw (2 * x)))).1)) := hl.cell rfl
    have g2_2 := hl.frozen 2
    have g3_2 := hl.frozen 3
    have g4_2 := hl.frozen 4
    have HD2 := Lib.hid hd
    have HK2 : Hid (Dsk w2 db L) := hk
    have HL2 := Lib.hid hl
    have HF2 : Hid (Fr (fun b => b = lb) B W w2) := hf
    clear hd hk hf hl
    clear l0_0 l1_0 l2_0 l3_0 l4_0 g2_0 g3_0 g4_0
    go_wp2_with fail
    refine (looks_any (me := me) (all := all) (at_ := 1) (x := x) (y := (iw (d.load (iw (2 + iw (2 * x)))).1)) (o := o) HO.out.symm HD2.out HK2.out HL2.out hB).mono ?_
    rintro e w3 ⟨rfl, ⟨vl3, va3, hd⟩, hl, hk, hf⟩
    have l0_3 : w3.cell? ⟨lb, 0, none⟩ = some (.int .i64 me) := hl.cell rfl
    have l1_3 : w3.cell? ⟨lb, 1, none⟩ = some (.int .i64 all) := hl.cell rfl
    have l2_3 : w3.cell? ⟨lb, 2, none⟩ = some (.int .i64 1) := hl.cell rfl
    have l3_3 : w3.cell? ⟨lb, 3, none⟩ = some (.int .i64 o) := hl.cell rfl
    have l4_3 : w3.cell? ⟨lb, 4, none⟩ = some (.int .i64 (iw (d.load (iw (2 + iw (2 * x)))).1)) := hl.cell rfl
    have g2_3 := hl.frozen 2
    have g3_3 := hl.frozen 3
    have g4_3 := hl.frozen 4
    have HD3 := Lib.hid hd
    have HF3 : Hid (Fr (fun b => b = lb) B W w3) := HF2.out.trans hf
    have HL3 := Lib.hid hl
    have HK3 : Hid (Dsk w3 db L) := hk
    clear hd hf hl hk
    clear l0_2 l1_2 l2_2 l3_2 l4_2 g2_2 g3_2 g4_2
    cases hy : o == all with
    | true =>
      have HY := Lib.hid hy
      go_wp2_with fail
      go_ret
      rw [HY.out]
      exact ⟨rfl, ⟨_, _, (HD3.out.off HL3.out rfl 2 _)⟩, (HL3.out.set_ 2 (.int .i64 2)), (HF3.out.here hB _ _)⟩
    | false =>
      have HY := Lib.hid hy
      go_wp2_with fail
      go_ret
      rw [HY.out]
      exact ⟨rfl, ⟨_, _, HD3.out⟩, HL3.out, HF3.out⟩
set_option maxRecDepth 100000 in
set_option maxHeartbeats 8000000 in
theorem bake_a1f {me all at_ x y : Int} (a0 : (at_ == 0) = false) (a1 : (at_ == 1) = true) (hm : ¬ y < iw (d.load (iw (2 + iw (2 * x)))).1) (h : DM W B L vl va d) (hd : Dsk W db L) (hl0 : Blk W lb 159 [.int .i64 me, .int .i64 all, .int .i64 at_, .int .i64 x, .int .i64 y]) (hB : B ≤ lb) (hn : d.log.length ≤ 100000) : Calls Try.prog 125 #[.pointer (some ⟨lb, 0, none⟩), .pointer (some ⟨db, 0, none⟩)] W (LkR B L lb W (Lk.bakeA ⟨6, me, all, at_, x, y⟩ d)) := by
  have l0_0 : W.cell? ⟨lb, 0, none⟩ = some (.int .i64 me) := hl0.cell rfl
  have l1_0 : W.cell? ⟨lb, 1, none⟩ = some (.int .i64 all) := hl0.cell rfl
  have l2_0 : W.cell? ⟨lb, 2, none⟩ = some (.int .i64 at_) := hl0.cell rfl
  have l3_0 : W.cell? ⟨lb, 3, none⟩ = some (.int .i64 x) := hl0.cell rfl
  have l4_0 : W.cell? ⟨lb, 4, none⟩ = some (.int .i64 y) := hl0.cell rfl
  have g2_0 := hl0.frozen 2
  have g3_0 := hl0.frozen 3
  have g4_0 := hl0.frozen 4
  have HD0 := Lib.hid h
  have HK0 := Lib.hid hd
  have HL0 := Lib.hid hl0
  have HF0 : Hid (Fr (fun b => b = lb) B W W) := Fr.refl _ _ _
  clear h hd hl0
  have at1 : at_ = 1 := by simpa using a1
  subst at1
  have m0 : max y (iw (d.load (iw (2 + iw (2 * x)))).1) = y := by omega
  have m1 : IntKind.i64.wrap (d.load (iw (2 + iw (2 * x)))).1 ≤ y := by rw [IntWalk.i64_left]; show iw (d.load (iw (2 + iw (2 * x)))).1 ≤ y; omega
  have m2 : ¬ y < IntKind.i64.wrap (d.load (iw (2 + iw (2 * x)))).1 := by omega
  have e1 : Lk.bakeA ⟨6, me, all, 1, x, y⟩ d = (false, ⟨6, me, all, bif (Lk.oth ⟨6, me, all, 1, x, y⟩ x) == all then 2 else 1, Lk.oth ⟨6, me, all, 1, x, y⟩ x, max y (iw (d.load (iw (2 + iw (2 * x)))).1)⟩, (d.load (iw (2 + iw (2 * x)))).2) := rfl
  rw [e1, m0]
  clear e1 m0
  obtain ⟨o, ho⟩ : ∃ o, o = Lk.oth ⟨6, me, all, 1, x, y⟩ x := ⟨_, rfl⟩
  rw [← ho]
  have HO := Lib.hid ho
  clear ho
  go_enter Try.func125, Try.ntmps125
  go_upto_region 13 with fail
  go_cut [4] (fun s4 wc => s4 = .bool false ∧ (∃ vl va, DM wc B L vl va (d.load (iw (2 + iw (2 * x)))).2) ∧ Blk wc lb 159 [.int .i64 me, .int .i64 all, .int .i64 1, .int .i64 x, .int .i64 y] ∧ Dsk wc db L ∧ Fr (fun b => b = lb) B W wc)
  case first =>
    go_region_with (go_at_call 93; simp only [IntWalk.i64_left]; refine (dload_any (HD0.out.on (Below.refl _ _).drew) HK0.out hn (iw (2 + iw (2 * x)))).mono ?_; rintro e w9 ⟨rfl, ⟨vl9, va9, hd9⟩, hf9⟩; have hl9 := hf9.blk HL0.out rfl (by simp); have hk9 : Dsk w9 db L := hf9.blk HK0.out rfl (by simp); have c4 : w9.cell? ⟨lb, 4, none⟩ = some (.int .i64 y) := hl9.cell rfl; have gg := hl9.frozen 4)
    all_goals (go_wp2_with fail; go_meet)
    all_goals try simp only [IntWalk.i64_left]
    all_goals exact ⟨by first | rfl | trivial, ⟨_, _, hd9.off hl9 rfl 4 _⟩, hl9.set_ 4 _, hk9.far (p := ⟨lb, 4, none⟩) (hk9.blk_ne hl9 (by decide)) _, ((Fr.refl _ _ _).drew.trans hf9.no).here hB _ _⟩
  case rest =>
    obtain ⟨rfl, ⟨vl2, va2, hd⟩, hl, hk, hf⟩ := hcut
    obtain ⟨w2, rfl⟩ : ∃ w2 : World, w2 = wc := ⟨_, rfl⟩
    have l0_2 : w2.cell? ⟨lb, 0, none⟩ = some (.int .i64 me) := hl.cell rfl
    have l1_2 : w2.cell? ⟨lb, 1, none⟩ = some (.int .i64 all) := hl.cell rfl
    have l2_2 : w2.cell? ⟨lb, 2, none⟩ = some (.int .i64 1) := hl.cell rfl
    have l3_2 : w2.cell? ⟨lb, 3, none⟩ = some (.int .i64 x) := hl.cell rfl
    have l4_2 : w2.cell? ⟨lb, 4, none⟩ = some (.int .i64 y) := hl.cell rfl
    have g2_2 := hl.frozen 2
    have g3_2 := hl.frozen 3
    have g4_2 := hl.frozen 4
    have HD2 := Lib.hid hd
    have HK2 : Hid (Dsk w2 db L) := hk
    have HL2 := Lib.hid hl
    have HF2 : Hid (Fr (fun b => b = lb) B W w2) := hf
    clear hd hk hf hl
    clear l0_0 l1_0 l2_0 l3_0 l4_0 g2_0 g3_0 g4_0
    go_wp2_with fail
    refine (looks_any (me := me) (all := all) (at_ := 1) (x := x) (y := y) (o := o) HO.out.symm HD2.out HK2.out HL2.out hB).mono ?_
    rintro e w3 ⟨rfl, ⟨vl3, va3, hd⟩, hl, hk, hf⟩
    have l0_3 : w3.cell? ⟨lb, 0, none⟩ = some (.int .i64 me) := hl.cell rfl
    have l1_3 : w3.cell? ⟨lb, 1, none⟩ = some (.int .i64 all) := hl.cell rfl
    have l2_3 : w3.cell? ⟨lb, 2, none⟩ = some (.int .i64 1) := hl.cell rfl
    have l3_3 : w3.cell? ⟨lb, 3, none⟩ = some (.int .i64 o) := hl.cell rfl
    have l4_3 : w3.cell? ⟨lb, 4, none⟩ = some (.int .i64 y) := hl.cell rfl
    have g2_3 := hl.frozen 2
    have g3_3 := hl.frozen 3
    have g4_3 := hl.frozen 4
    have HD3 := Lib.hid hd
    have HF3 : Hid (Fr (fun b => b = lb) B W w3) := HF2.out.trans hf
    have HL3 := Lib.hid hl
    have HK3 : Hid (Dsk w3 db L) := hk
    clear hd hf hl hk
    clear l0_2 l1_2 l2_2 l3_2 l4_2 g2_2 g3_2 g4_2
    cases hy : o == all with
    | true =>
      have HY := Lib.hid hy
      go_wp2_with fail
      go_ret
      rw [HY.out]
      exact ⟨rfl, ⟨_, _, (HD3.out.off HL3.out rfl 2 _)⟩, (HL3.out.set_ 2 (.int .i64 2)), (HF3.out.here hB _ _)⟩
    | false =>
      have HY := Lib.hid hy
      go_wp2_with fail
      go_ret
      rw [HY.out]
      exact ⟨rfl, ⟨_, _, HD3.out⟩, HL3.out, HF3.out⟩
set_option maxRecDepth 100000 in
set_option maxHeartbeats 8000000 in
theorem bake_a2 {me all at_ x y : Int} (a0 : (at_ == 0) = false) (a1 : (at_ == 1) = false) (a2 : (at_ == 2) = true) (h : DM W B L vl va d) (hd : Dsk W db L) (hl0 : Blk W lb 159 [.int .i64 me, .int .i64 all, .int .i64 at_, .int .i64 x, .int .i64 y]) (hB : B ≤ lb) (hn : d.log.length ≤ 100000) : Calls Try.prog 125 #[.pointer (some ⟨lb, 0, none⟩), .pointer (some ⟨db, 0, none⟩)] W (LkR B L lb W (Lk.bakeA ⟨6, me, all, at_, x, y⟩ d)) := by
  have l0_0 : W.cell? ⟨lb, 0, none⟩ = some (.int .i64 me) := hl0.cell rfl
  have l1_0 : W.cell? ⟨lb, 1, none⟩ = some (.int .i64 all) := hl0.cell rfl
  have l2_0 : W.cell? ⟨lb, 2, none⟩ = some (.int .i64 at_) := hl0.cell rfl
  have l3_0 : W.cell? ⟨lb, 3, none⟩ = some (.int .i64 x) := hl0.cell rfl
  have l4_0 : W.cell? ⟨lb, 4, none⟩ = some (.int .i64 y) := hl0.cell rfl
  have g2_0 := hl0.frozen 2
  have g3_0 := hl0.frozen 3
  have g4_0 := hl0.frozen 4
  have HD0 := Lib.hid h
  have HK0 := Lib.hid hd
  have HL0 := Lib.hid hl0
  have HF0 : Hid (Fr (fun b => b = lb) B W W) := Fr.refl _ _ _
  clear h hd hl0
  have e1 : Lk.bakeA ⟨6, me, all, at_, x, y⟩ d = (false, ⟨6, me, all, 3, x, iw (y + 1)⟩, d.store (iw (2 + iw (2 * me))) (uw (iw (y + 1)))) := by unfold Lk.bakeA; dsimp only; rw [a0, a1, a2]; rfl
  rw [e1]
  clear e1
  go_enter Try.func125, Try.ntmps125
  go_upto_region 18 with fail
  have hd := (HD0.out.off HL0.out rfl 4 (.int .i64 (wrap64 (y + 1))))
  have hk := (HK0.out.far (p := ⟨lb, 4, none⟩) (HK0.out.blk_ne HL0.out (by decide)) (.int .i64 (wrap64 (y + 1))))
  have hl : Blk (W.setCell ⟨lb, 4, none⟩ (.int .i64 (wrap64 (y + 1)))) lb 159 [.int .i64 me, .int .i64 all, .int .i64 at_, .int .i64 x, .int .i64 (wrap64 (y + 1))] := (HL0.out.set_ 4 (.int .i64 (wrap64 (y + 1))))
  have hf := (HF0.out.here hB 4 (.int .i64 (wrap64 (y + 1))))
  generalize (W.setCell ⟨lb, 4, none⟩ (.int .i64 (wrap64 (y + 1)))) = w1 at hd hk hl hf ⊢
  have l0_1 : w1.cell? ⟨lb, 0, none⟩ = some (.int .i64 me) := hl.cell rfl
  have l1_1 : w1.cell? ⟨lb, 1, none⟩ = some (.int .i64 all) := hl.cell rfl
  have l2_1 : w1.cell? ⟨lb, 2, none⟩ = some (.int .i64 at_) := hl.cell rfl
  have l3_1 : w1.cell? ⟨lb, 3, none⟩ = some (.int .i64 x) := hl.cell rfl
  have l4_1 : w1.cell? ⟨lb, 4, none⟩ = some (.int .i64 (wrap64 (y + 1))) := hl.cell rfl
  have g2_1 := hl.frozen 2
  have g3_1 := hl.frozen 3
  have g4_1 := hl.frozen 4
  have HD1 := Lib.hid hd
  have HF1 : Hid (Fr (fun b => b = lb) B W w1) := hf
  have HL1 := Lib.hid hl
  have HK1 : Hid (Dsk w1 db L) := hk
  clear hd hf hl hk
  clear l0_0 l1_0 l2_0 l3_0 l4_0 g2_0 g3_0 g4_0
  refine wp_region_held_drew (S := fun W => W.cell? ⟨lb, 0, none⟩ = some (.int .i64 me) ∧ W.cell? ⟨lb, 4, none⟩ = some (.int .i64 (wrap64 (y + 1)))) (by kernel_rfl) ⟨l0_1, l4_1⟩ (fun hS => ?_)
  iterate 13 (refine tkF 0 (v := ?_) ?_ ?_; rotate_left; · (intro W hSw; (try dsimp only at hSw); go_simp; try with_reducible rfl); try simp only [Act.put, List.setIfInBounds_toArray, List.set_cons_zero, List.set_cons_succ])
  refine rd 13 fun K1 hK1 => ?_
  go_simp
  go_at_call 105
  try simp only [IntWalk.i64_left]
  refine (dstore_any (HD1.out.on (Below.refl _ _).drew) HK1.out hn (iw (2 + iw (2 * me))) (uw (iw (y + 1)))).mono ?_
  rintro e w2 ⟨rfl, ⟨vl2, va2, hd⟩, hf⟩
  have hl := hf.blk HL1.out rfl (by simp)
  have hk : Dsk w2 db L := hf.blk HK1.out rfl (by simp)
  have l0_2 : w2.cell? ⟨lb, 0, none⟩ = some (.int .i64 me) := hl.cell rfl
  have l1_2 : w2.cell? ⟨lb, 1, none⟩ = some (.int .i64 all) := hl.cell rfl
  have l2_2 : w2.cell? ⟨lb, 2, none⟩ = some (.int .i64 at_) := hl.cell rfl
  have l3_2 : w2.cell? ⟨lb, 3, none⟩ = some (.int .i64 x) := hl.cell rfl
  have l4_2 : w2.cell? ⟨lb, 4, none⟩ = some (.int .i64 (wrap64 (y + 1))) := hl.cell rfl
  have g2_2 := hl.frozen 2
  have g3_2 := hl.frozen 3
  have g4_2 := hl.frozen 4
  have HD2 := Lib.hid hd
  have HF2 : Hid (Fr (fun b => b = lb) B W w2) := (HF1.out.drew).trans hf.no
  have HL2 := Lib.hid hl
  have HK2 := Lib.hid hk
  refine hK1.out _ _ ⟨l0_2, l4_2⟩ (fun _ => ?_)
  clear hd hf hl hk
  refine wpAnyH_done (by kernel_rfl) ?_ _
  clear l0_1 l1_1 l2_1 l3_1 l4_1 g2_1 g3_1 g4_1
  go_wp2_with fail
  go_ret
  exact ⟨rfl, ⟨_, _, (HD2.out.off HL2.out rfl 2 _)⟩, (HL2.out.set_ 2 (.int .i64 3)), (HF2.out.here hB _ _)⟩
set_option maxRecDepth 100000 in
set_option maxHeartbeats 8000000 in
theorem bake_a3 {me all at_ x y : Int} (a0 : (at_ == 0) = false) (a1 : (at_ == 1) = false) (a2 : (at_ == 2) = false) (a3 : (at_ == 3) = true) (h : DM W B L vl va d) (hd : Dsk W db L) (hl0 : Blk W lb 159 [.int .i64 me, .int .i64 all, .int .i64 at_, .int .i64 x, .int .i64 y]) (hB : B ≤ lb) (hn : d.log.length ≤ 100000) : Calls Try.prog 125 #[.pointer (some ⟨lb, 0, none⟩), .pointer (some ⟨db, 0, none⟩)] W (LkR B L lb W (Lk.bakeA ⟨6, me, all, at_, x, y⟩ d)) := by
  have l0_0 : W.cell? ⟨lb, 0, none⟩ = some (.int .i64 me) := hl0.cell rfl
  have l1_0 : W.cell? ⟨lb, 1, none⟩ = some (.int .i64 all) := hl0.cell rfl
  have l2_0 : W.cell? ⟨lb, 2, none⟩ = some (.int .i64 at_) := hl0.cell rfl
  have l3_0 : W.cell? ⟨lb, 3, none⟩ = some (.int .i64 x) := hl0.cell rfl
  have l4_0 : W.cell? ⟨lb, 4, none⟩ = some (.int .i64 y) := hl0.cell rfl
  have g2_0 := hl0.frozen 2
  have g3_0 := hl0.frozen 3
  have g4_0 := hl0.frozen 4
  have HD0 := Lib.hid h
  have HK0 := Lib.hid hd
  have HL0 := Lib.hid hl0
  have HF0 : Hid (Fr (fun b => b = lb) B W W) := Fr.refl _ _ _
  clear h hd hl0
  have e1 : Lk.bakeA ⟨6, me, all, at_, x, y⟩ d = ((Lk.oth ⟨6, me, all, at_, x, y⟩ (-1)) == all, ⟨6, me, all, 4, (Lk.oth ⟨6, me, all, at_, x, y⟩ (-1)), y⟩, (d.store (iw (1 + iw (2 * me))) 0).point) := by unfold Lk.bakeA; dsimp only; rw [a0, a1, a2, a3]; rfl
  rw [e1]
  clear e1
  obtain ⟨o, ho⟩ : ∃ o, o = (Lk.oth ⟨6, me, all, at_, x, y⟩ (-1)) := ⟨_, rfl⟩
  rw [← ho]
  have HO := Lib.hid ho
  clear ho
  go_enter Try.func125, Try.ntmps125
  go_wp2_with fail
  refine (dstore_any HD0.out HK0.out hn (iw (1 + iw (2 * me))) 0).mono ?_
  rintro e w1 ⟨rfl, ⟨vl1, va1, hd⟩, hf⟩
  have hl := hf.blk HL0.out rfl (by simp)
  have hk : Dsk w1 db L := hf.blk HK0.out rfl (by simp)
  have l0_1 : w1.cell? ⟨lb, 0, none⟩ = some (.int .i64 me) := hl.cell rfl
  have l1_1 : w1.cell? ⟨lb, 1, none⟩ = some (.int .i64 all) := hl.cell rfl
  have l2_1 : w1.cell? ⟨lb, 2, none⟩ = some (.int .i64 at_) := hl.cell rfl
  have l3_1 : w1.cell? ⟨lb, 3, none⟩ = some (.int .i64 x) := hl.cell rfl
  have l4_1 : w1.cell? ⟨lb, 4, none⟩ = some (.int .i64 y) := hl.cell rfl
  have g2_1 := hl.frozen 2
  have g3_1 := hl.frozen 3
  have g4_1 := hl.frozen 4
  have HD1 := Lib.hid hd
  have HF1 : Hid (Fr (fun b => b = lb) B W w1) := HF0.out.trans hf.no
  have HL1 := Lib.hid hl
  have HK1 := Lib.hid hk
  clear hd hf hl hk
  clear l0_0 l1_0 l2_0 l3_0 l4_0 g2_0 g3_0 g4_0
  go_wp2_with fail
  refine (ptnow_any HD1.out HK1.out).mono ?_
  rintro e w2 ⟨rfl, ⟨vl2, va2, hd⟩, hf⟩
  have hl := hf.blk HL1.out rfl (by simp)
  have hk : Dsk w2 db L := hf.blk HK1.out rfl (by simp)
  have l0_2 : w2.cell? ⟨lb, 0, none⟩ = some (.int .i64 me) := hl.cell rfl
  have l1_2 : w2.cell? ⟨lb, 1, none⟩ = some (.int .i64 all) := hl.cell rfl
  have l2_2 : w2.cell? ⟨lb, 2, none⟩ = some (.int .i64 at_) := hl.cell rfl
  have l3_2 : w2.cell? ⟨lb, 3, none⟩ = some (.int .i64 x) := hl.cell rfl
  have l4_2 : w2.cell? ⟨lb, 4, none⟩ = some (.int .i64 y) := hl.cell rfl
  have g2_2 := hl.frozen 2
  have g3_2 := hl.frozen 3
  have g4_2 := hl.frozen 4
  have HD2 := Lib.hid hd
  have HF2 : Hid (Fr (fun b => b = lb) B W w2) := HF1.out.trans hf.no
  have HL2 := Lib.hid hl
  have HK2 := Lib.hid hk
  clear hd hf hl hk
  clear l0_1 l1_1 l2_1 l3_1 l4_1 g2_1 g3_1 g4_1
  go_wp2_with fail
  have hd := ((HD2.out.off HL2.out rfl 2 (.int .i64 4)).off (HL2.out.set_ 2 (.int .i64 4)) rfl 3 (.int .i64 (-1)))
  have hk := ((HK2.out.far (p := ⟨lb, 2, none⟩) (HK2.out.blk_ne HL2.out (by decide)) (.int .i64 4)).far (p := ⟨lb, 3, none⟩) (HK2.out.blk_ne HL2.out (by decide)) (.int .i64 (-1)))
  have hl : Blk ((w2.setCell ⟨lb, 2, none⟩ (.int .i64 4)).setCell ⟨lb, 3, none⟩ (.int .i64 (-1))) lb 159 [.int .i64 me, .int .i64 all, .int .i64 4, .int .i64 (-1), .int .i64 y] := ((HL2.out.set_ 2 (.int .i64 4)).set_ 3 (.int .i64 (-1)))
  have hf := ((HF2.out.here hB 2 (.int .i64 4)).here hB 3 (.int .i64 (-1)))
  generalize ((w2.setCell ⟨lb, 2, none⟩ (.int .i64 4)).setCell ⟨lb, 3, none⟩ (.int .i64 (-1))) = w3 at hd hk hl hf ⊢
  have l0_3 : w3.cell? ⟨lb, 0, none⟩ = some (.int .i64 me) := hl.cell rfl
  have l1_3 : w3.cell? ⟨lb, 1, none⟩ = some (.int .i64 all) := hl.cell rfl
  have l2_3 : w3.cell? ⟨lb, 2, none⟩ = some (.int .i64 4) := hl.cell rfl
  have l3_3 : w3.cell? ⟨lb, 3, none⟩ = some (.int .i64 (-1)) := hl.cell rfl
  have l4_3 : w3.cell? ⟨lb, 4, none⟩ = some (.int .i64 y) := hl.cell rfl
  have g2_3 := hl.frozen 2
  have g3_3 := hl.frozen 3
  have g4_3 := hl.frozen 4
  have HD3 := Lib.hid hd
  have HF3 : Hid (Fr (fun b => b = lb) B W w3) := hf
  have HL3 := Lib.hid hl
  have HK3 : Hid (Dsk w3 db L) := hk
  clear hd hf hl hk
  clear l0_2 l1_2 l2_2 l3_2 l4_2 g2_2 g3_2 g4_2
  refine (looks_any (me := me) (all := all) (at_ := 4) (x := (-1)) (y := y) (o := o) HO.out.symm HD3.out HK3.out HL3.out hB).mono ?_
  rintro e w4 ⟨rfl, ⟨vl4, va4, hd⟩, hl, hk, hf⟩
  have l0_4 : w4.cell? ⟨lb, 0, none⟩ = some (.int .i64 me) := hl.cell rfl
  have l1_4 : w4.cell? ⟨lb, 1, none⟩ = some (.int .i64 all) := hl.cell rfl
  have l2_4 : w4.cell? ⟨lb, 2, none⟩ = some (.int .i64 4) := hl.cell rfl
  have l3_4 : w4.cell? ⟨lb, 3, none⟩ = some (.int .i64 o) := hl.cell rfl
  have l4_4 : w4.cell? ⟨lb, 4, none⟩ = some (.int .i64 y) := hl.cell rfl
  have g2_4 := hl.frozen 2
  have g3_4 := hl.frozen 3
  have g4_4 := hl.frozen 4
  have HD4 := Lib.hid hd
  have HF4 : Hid (Fr (fun b => b = lb) B W w4) := HF3.out.trans hf
  have HL4 := Lib.hid hl
  have HK4 : Hid (Dsk w4 db L) := hk
  clear hd hf hl hk
  clear l0_3 l1_3 l2_3 l3_3 l4_3 g2_3 g3_3 g4_3
  go_wp2_with fail
  go_ret
  exact ⟨rfl, ⟨_, _, HD4.out⟩, HL4.out, HF4.out⟩
set_option maxRecDepth 100000 in
set_option maxHeartbeats 8000000 in
theorem bake_a4t {me all at_ x y : Int} (a0 : (at_ == 0) = false) (a1 : (at_ == 1) = false) (a2 : (at_ == 2) = false) (a3 : (at_ == 3) = false) (a4 : (at_ == 4) = true) (hz : ((d.load (iw (1 + iw (2 * x)))).1 == 0) = true) (h : DM W B L vl va d) (hd : Dsk W db L) (hl0 : Blk W lb 159 [.int .i64 me, .int .i64 all, .int .i64 at_, .int .i64 x, .int .i64 y]) (hB : B ≤ lb) (hn : d.log.length ≤ 100000) : Calls Try.prog 125 #[.pointer (some ⟨lb, 0, none⟩), .pointer (some ⟨db, 0, none⟩)] W (LkR B L lb W (Lk.bakeA ⟨6, me, all, at_, x, y⟩ d)) := by
  have l0_0 : W.cell? ⟨lb, 0, none⟩ = some (.int .i64 me) := hl0.cell rfl
  have l1_0 : W.cell? ⟨lb, 1, none⟩ = some (.int .i64 all) := hl0.cell rfl
  have l2_0 : W.cell? ⟨lb, 2, none⟩ = some (.int .i64 at_) := hl0.cell rfl
  have l3_0 : W.cell? ⟨lb, 3, none⟩ = some (.int .i64 x) := hl0.cell rfl
  have l4_0 : W.cell? ⟨lb, 4, none⟩ = some (.int .i64 y) := hl0.cell rfl
  have g2_0 := hl0.frozen 2
  have g3_0 := hl0.frozen 3
  have g4_0 := hl0.frozen 4
  have HD0 := Lib.hid h
  have HK0 := Lib.hid hd
  have HL0 := Lib.hid hl0
  have HF0 : Hid (Fr (fun b => b = lb) B W W) := Fr.refl _ _ _
  clear h hd hl0
  have at4 : at_ = 4 := by simpa using a4
  subst at4
  have e1 : Lk.bakeA ⟨6, me, all, 4, x, y⟩ d = (false, ⟨6, me, all, 5, x, y⟩, (d.load (iw (1 + iw (2 * x)))).2) := by unfold Lk.bakeA; dsimp only; rw [hz]; rfl
  rw [e1]
  clear e1
  go_enter Try.func125, Try.ntmps125
  go_wp2_with fail
  refine (dload_any HD0.out HK0.out hn (iw (1 + iw (2 * x)))).mono ?_
  rintro e w1 ⟨rfl, ⟨vl1, va1, hd⟩, hf⟩
  have hl := hf.blk HL0.out rfl (by simp)
  have hk : Dsk w1 db L := hf.blk HK0.out rfl (by simp)
  have l0_1 : w1.cell? ⟨lb, 0, none⟩ = some (.int .i64 me) := hl.cell rfl
  have l1_1 : w1.cell? ⟨lb, 1, none⟩ = some (.int .i64 all) := hl.cell rfl
  have l2_1 : w1.cell? ⟨lb, 2, none⟩ = some (.int .i64 4) := hl.cell rfl
  have l3_1 : w1.cell? ⟨lb, 3, none⟩ = some (.int .i64 x) := hl.cell rfl
  have l4_1 : w1.cell? ⟨lb, 4, none⟩ = some (.int .i64 y) := hl.cell rfl
  have g2_1 := hl.frozen 2
  have g3_1 := hl.frozen 3
  have g4_1 := hl.frozen 4
  have HD1 := Lib.hid hd
  have HF1 : Hid (Fr (fun b => b = lb) B W w1) := HF0.out.trans hf.no
  have HL1 := Lib.hid hl
  have HK1 := Lib.hid hk
  clear hd hf hl hk
  clear l0_0 l1_0 l2_0 l3_0 l4_0 g2_0 g3_0 g4_0
  go_wp2_with fail
  go_ret
  exact ⟨rfl, ⟨_, _, (HD1.out.off HL1.out rfl 2 _)⟩, (HL1.out.set_ 2 (.int .i64 5)), (HF1.out.here hB _ _)⟩
set_option maxRecDepth 100000 in
set_option maxHeartbeats 8000000 in
theorem bake_a4f {me all at_ x y : Int} (a0 : (at_ == 0) = false) (a1 : (at_ == 1) = false) (a2 : (at_ == 2) = false) (a3 : (at_ == 3) = false) (a4 : (at_ == 4) = true) (hz : ((d.load (iw (1 + iw (2 * x)))).1 == 0) = false) (h : DM W B L vl va d) (hd : Dsk W db L) (hl0 : Blk W lb 159 [.int .i64 me, .int .i64 all, .int .i64 at_, .int .i64 x, .int .i64 y]) (hB : B ≤ lb) (hn : d.log.length ≤ 100000) : Calls Try.prog 125 #[.pointer (some ⟨lb, 0, none⟩), .pointer (some ⟨db, 0, none⟩)] W (LkR B L lb W (Lk.bakeA ⟨6, me, all, at_, x, y⟩ d)) := by
  have l0_0 : W.cell? ⟨lb, 0, none⟩ = some (.int .i64 me) := hl0.cell rfl
  have l1_0 : W.cell? ⟨lb, 1, none⟩ = some (.int .i64 all) := hl0.cell rfl
  have l2_0 : W.cell? ⟨lb, 2, none⟩ = some (.int .i64 at_) := hl0.cell rfl
  have l3_0 : W.cell? ⟨lb, 3, none⟩ = some (.int .i64 x) := hl0.cell rfl
  have l4_0 : W.cell? ⟨lb, 4, none⟩ = some (.int .i64 y) := hl0.cell rfl
  have g2_0 := hl0.frozen 2
  have g3_0 := hl0.frozen 3
  have g4_0 := hl0.frozen 4
  have HD0 := Lib.hid h
  have HK0 := Lib.hid hd
  have HL0 := Lib.hid hl0
  have HF0 : Hid (Fr (fun b => b = lb) B W W) := Fr.refl _ _ _
  clear h hd hl0
  have at4 : at_ = 4 := by simpa using a4
  subst at4
  have e1 : Lk.bakeA ⟨6, me, all, 4, x, y⟩ d = (false, ⟨6, me, all, 4, x, y⟩, (d.load (iw (1 + iw (2 * x)))).2) := by unfold Lk.bakeA; dsimp only; rw [hz]; rfl
  rw [e1]
  clear e1
  go_enter Try.func125, Try.ntmps125
  go_wp2_with fail
  refine (dload_any HD0.out HK0.out hn (iw (1 + iw (2 * x)))).mono ?_
  rintro e w1 ⟨rfl, ⟨vl1, va1, hd⟩, hf⟩
  have hl := hf.blk HL0.out rfl (by simp)
  have hk : Dsk w1 db L := hf.blk HK0.out rfl (by simp)
  have l0_1 : w1.cell? ⟨lb, 0, none⟩ = some (.int .i64 me) := hl.cell rfl
  have l1_1 : w1.cell? ⟨lb, 1, none⟩ = some (.int .i64 all) := hl.cell rfl
  have l2_1 : w1.cell? ⟨lb, 2, none⟩ = some (.int .i64 4) := hl.cell rfl
  have l3_1 : w1.cell? ⟨lb, 3, none⟩ = some (.int .i64 x) := hl.cell rfl
  have l4_1 : w1.cell? ⟨lb, 4, none⟩ = some (.int .i64 y) := hl.cell rfl
  have g2_1 := hl.frozen 2
  have g3_1 := hl.frozen 3
  have g4_1 := hl.frozen 4
  have HD1 := Lib.hid hd
  have HF1 : Hid (Fr (fun b => b = lb) B W w1) := HF0.out.trans hf.no
  have HL1 := Lib.hid hl
  have HK1 := Lib.hid hk
  clear hd hf hl hk
  clear l0_0 l1_0 l2_0 l3_0 l4_0 g2_0 g3_0 g4_0
  go_wp2_with fail
  go_ret
  exact ⟨rfl, ⟨_, _, HD1.out⟩, HL1.out, HF1.out⟩
set_option maxRecDepth 100000 in
set_option maxHeartbeats 8000000 in
theorem bake_a5a {me all at_ x y : Int} (a0 : (at_ == 0) = false) (a1 : (at_ == 1) = false) (a2 : (at_ == 2) = false) (a3 : (at_ == 3) = false) (a4 : (at_ == 4) = false) (c0 : ((iw (d.load (iw (2 + iw (2 * x)))).1) != 0) = false) (h : DM W B L vl va d) (hd : Dsk W db L) (hl0 : Blk W lb 159 [.int .i64 me, .int .i64 all, .int .i64 at_, .int .i64 x, .int .i64 y]) (hB : B ≤ lb) (hn : d.log.length ≤ 100000) : Calls Try.prog 125 #[.pointer (some ⟨lb, 0, none⟩), .pointer (some ⟨db, 0, none⟩)] W (LkR B L lb W (Lk.bakeA ⟨6, me, all, at_, x, y⟩ d)) := by
  have l0_0 : W.cell? ⟨lb, 0, none⟩ = some (.int .i64 me) := hl0.cell rfl
  have l1_0 : W.cell? ⟨lb, 1, none⟩ = some (.int .i64 all) := hl0.cell rfl
  have l2_0 : W.cell? ⟨lb, 2, none⟩ = some (.int .i64 at_) := hl0.cell rfl
  have l3_0 : W.cell? ⟨lb, 3, none⟩ = some (.int .i64 x) := hl0.cell rfl
  have l4_0 : W.cell? ⟨lb, 4, none⟩ = some (.int .i64 y) := hl0.cell rfl
  have g2_0 := hl0.frozen 2
  have g3_0 := hl0.frozen 3
  have g4_0 := hl0.frozen 4
  have HD0 := Lib.hid h
  have HK0 := Lib.hid hd
  have HL0 := Lib.hid hl0
  have HF0 : Hid (Fr (fun b => b = lb) B W W) := Fr.refl _ _ _
  clear h hd hl0
  have e1 : Lk.bakeA ⟨6, me, all, at_, x, y⟩ d = ((Lk.oth ⟨6, me, all, at_, x, y⟩ x) == all, ⟨6, me, all, 4, (Lk.oth ⟨6, me, all, at_, x, y⟩ x), y⟩, (d.load (iw (2 + iw (2 * x)))).2) := by unfold Lk.bakeA; dsimp only; rw [a0, a1, a2, a3, a4, c0]; rfl
  rw [e1]
  clear e1
  obtain ⟨o, ho⟩ : ∃ o, o = (Lk.oth ⟨6, me, all, at_, x, y⟩ x) := ⟨_, rfl⟩
  rw [← ho]
  have HO := Lib.hid ho
  clear ho
  go_enter Try.func125, Try.ntmps125
  go_wp2_with fail
  refine (dload_any HD0.out HK0.out hn (iw (2 + iw (2 * x)))).mono ?_
  rintro e w1 ⟨rfl, ⟨vl1, va1, hd⟩, hf⟩
  have hl := hf.blk HL0.out rfl (by simp)
  have hk : Dsk w1 db L := hf.blk HK0.out rfl (by simp)
  have l0_1 : w1.cell? ⟨lb, 0, none⟩ = some (.int .i64 me) := hl.cell rfl
  have l1_1 : w1.cell? ⟨lb, 1, none⟩ = some (.int .i64 all) := hl.cell rfl
  have l2_1 : w1.cell? ⟨lb, 2, none⟩ = some (.int .i64 at_) := hl.cell rfl
  have l3_1 : w1.cell? ⟨lb, 3, none⟩ = some (.int .i64 x) := hl.cell rfl
  have l4_1 : w1.cell? ⟨lb, 4, none⟩ = some (.int .i64 y) := hl.cell rfl
  have g2_1 := hl.frozen 2
  have g3_1 := hl.frozen 3
  have g4_1 := hl.frozen 4
  have HD1 := Lib.hid hd
  have HF1 : Hid (Fr (fun b => b = lb) B W w1) := HF0.out.trans hf.no
  have HL1 := Lib.hid hl
  have HK1 := Lib.hid hk
  clear hd hf hl hk
  clear l0_0 l1_0 l2_0 l3_0 l4_0 g2_0 g3_0 g4_0
  go_upto_region 3 with fail
  go_quiet (fail)
  obtain ⟨w2, hw2⟩ : ∃ w2 : World, w2 = w1.drewN nq := ⟨_, rfl⟩
  have hd := HD1.out.on (below_drewN (Below.refl _ _) nq)
  have hl : Blk (w1.drewN nq) lb 159 [.int .i64 me, .int .i64 all, .int .i64 at_, .int .i64 x, .int .i64 y] := HL1.out.below (below_drewN (Below.refl _ _) nq) HL1.out.lt
  have hk : Dsk (w1.drewN nq) db L := Blk.below HK1.out (below_drewN (Below.refl _ _) nq) (Blk.lt HK1.out)
  have hf : Fr (fun b => b = lb) B W (w1.drewN nq) := HF1.out.trans (Fr.of_below (below_drewN (Below.refl _ _) nq) HD1.out.size)
  rw [← hw2] at hd hl hk hf ⊢
  clear hw2
  have l0_2 : w2.cell? ⟨lb, 0, none⟩ = some (.int .i64 me) := hl.cell rfl
  have l1_2 : w2.cell? ⟨lb, 1, none⟩ = some (.int .i64 all) := hl.cell rfl
  have l2_2 : w2.cell? ⟨lb, 2, none⟩ = some (.int .i64 at_) := hl.cell rfl
  have l3_2 : w2.cell? ⟨lb, 3, none⟩ = some (.int .i64 x) := hl.cell rfl
  have l4_2 : w2.cell? ⟨lb, 4, none⟩ = some (.int .i64 y) := hl.cell rfl
  have g2_2 := hl.frozen 2
  have g3_2 := hl.frozen 3
  have g4_2 := hl.frozen 4
  have HD2 := Lib.hid hd
  have HK2 : Hid (Dsk w2 db L) := hk
  have HL2 := Lib.hid hl
  have HF2 : Hid (Fr (fun b => b = lb) B W w2) := hf
  clear hd hk hf hl
  clear l0_1 l1_1 l2_1 l3_1 l4_1 g2_1 g3_1 g4_1
  go_wp2_with fail
  have hd := (HD2.out.off HL2.out rfl 2 (.int .i64 4))
  have hk := (HK2.out.far (p := ⟨lb, 2, none⟩) (HK2.out.blk_ne HL2.out (by decide)) (.int .i64 4))
  have hl : Blk (w2.setCell ⟨lb, 2, none⟩ (.int .i64 4)) lb 159 [.int .i64 me, .int .i64 all, .int .i64 4, .int .i64 x, .int .i64 y] := (HL2.out.set_ 2 (.int .i64 4))
  have hf := (HF2.out.here hB 2 (.int .i64 4))
  generalize (w2.setCell ⟨lb, 2, none⟩ (.int .i64 4)) = w3 at hd hk hl hf ⊢
  have l0_3 : w3.cell? ⟨lb, 0, none⟩ = some (.int .i64 me) := hl.cell rfl
  have l1_3 : w3.cell? ⟨lb, 1, none⟩ = some (.int .i64 all) := hl.cell rfl
  have l2_3 : w3.cell? ⟨lb, 2, none⟩ = some (.int .i64 4) := hl.cell rfl
  have l3_3 : w3.cell? ⟨lb, 3, none⟩ = some (.int .i64 x) := hl.cell rfl
  have l4_3 : w3.cell? ⟨lb, 4, none⟩ = some (.int .i64 y) := hl.cell rfl
  have g2_3 := hl.frozen 2
  have g3_3 := hl.frozen 3
  have g4_3 := hl.frozen 4
  have HD3 := Lib.hid hd
  have HF3 : Hid (Fr (fun b => b = lb) B W w3) := hf
  have HL3 := Lib.hid hl
  have HK3 : Hid (Dsk w3 db L) := hk
  clear hd hf hl hk
  clear l0_2 l1_2 l2_2 l3_2 l4_2 g2_2 g3_2 g4_2
  refine (looks_any (me := me) (all := all) (at_ := 4) (x := x) (y := y) (o := o) HO.out.symm HD3.out HK3.out HL3.out hB).mono ?_
  rintro e w4 ⟨rfl, ⟨vl4, va4, hd⟩, hl, hk, hf⟩
  have l0_4 : w4.cell? ⟨lb, 0, none⟩ = some (.int .i64 me) := hl.cell rfl
  have l1_4 : w4.cell? ⟨lb, 1, none⟩ = some (.int .i64 all) := hl.cell rfl
  have l2_4 : w4.cell? ⟨lb, 2, none⟩ = some (.int .i64 4) := hl.cell rfl
  have l3_4 : w4.cell? ⟨lb, 3, none⟩ = some (.int .i64 o) := hl.cell rfl
  have l4_4 : w4.cell? ⟨lb, 4, none⟩ = some (.int .i64 y) := hl.cell rfl
  have g2_4 := hl.frozen 2
  have g3_4 := hl.frozen 3
  have g4_4 := hl.frozen 4
  have HD4 := Lib.hid hd
  have HF4 : Hid (Fr (fun b => b = lb) B W w4) := HF3.out.trans hf
  have HL4 := Lib.hid hl
  have HK4 : Hid (Dsk w4 db L) := hk
  clear hd hf hl hk
  clear l0_3 l1_3 l2_3 l3_3 l4_3 g2_3 g3_3 g4_3
  go_wp2_with fail
  go_ret
  exact ⟨rfl, ⟨_, _, HD4.out⟩, HL4.out, HF4.out⟩
set_option maxRecDepth 100000 in
set_option maxHeartbeats 8000000 in
theorem bake_a5b {me all at_ x y : Int} (a0 : (at_ == 0) = false) (a1 : (at_ == 1) = false) (a2 : (at_ == 2) = false) (a3 : (at_ == 3) = false) (a4 : (at_ == 4) = false) (c0 : ((iw (d.load (iw (2 + iw (2 * x)))).1) != 0) = true) (c1 : decide ((iw (d.load (iw (2 + iw (2 * x)))).1) < y) = true) (h : DM W B L vl va d) (hd : Dsk W db L) (hl0 : Blk W lb 159 [.int .i64 me, .int .i64 all, .int .i64 at_, .int .i64 x, .int .i64 y]) (hB : B ≤ lb) (hn : d.log.length ≤ 100000) : Calls Try.prog 125 #[.pointer (some ⟨lb, 0, none⟩), .pointer (some ⟨db, 0, none⟩)] W (LkR B L lb W (Lk.bakeA ⟨6, me, all, at_, x, y⟩ d)) := by
  have l0_0 : W.cell? ⟨lb, 0, none⟩ = some (.int .i64 me) := hl0.cell rfl
  have l1_0 : W.cell? ⟨lb, 1, none⟩ = some (.int .i64 all) := hl0.cell rfl
  have l2_0 : W.cell? ⟨lb, 2, none⟩ = some (.int .i64 at_) := hl0.cell rfl
  have l3_0 : W.cell? ⟨lb, 3, none⟩ = some (.int .i64 x) := hl0.cell rfl
  have l4_0 : W.cell? ⟨lb, 4, none⟩ = some (.int .i64 y) := hl0.cell rfl
  have g2_0 := hl0.frozen 2
  have g3_0 := hl0.frozen 3
  have g4_0 := hl0.frozen 4
  have HD0 := Lib.hid h
  have HK0 := Lib.hid hd
  have HL0 := Lib.hid hl0
  have HF0 : Hid (Fr (fun b => b = lb) B W W) := Fr.refl _ _ _
  clear h hd hl0
  have e1 : Lk.bakeA ⟨6, me, all, at_, x, y⟩ d = (false, ⟨6, me, all, at_, x, y⟩, (d.load (iw (2 + iw (2 * x)))).2) := by unfold Lk.bakeA; dsimp only; rw [a0, a1, a2, a3, a4, c0, c1]; rfl
  rw [e1]
  clear e1
  have c1' : wrap64 (d.load (iw (2 + iw (2 * x)))).1 < y := of_decide_eq_true c1
  go_enter Try.func125, Try.ntmps125
  go_wp2_with fail
  refine (dload_any HD0.out HK0.out hn (iw (2 + iw (2 * x)))).mono ?_
  rintro e w1 ⟨rfl, ⟨vl1, va1, hd⟩, hf⟩
  have hl := hf.blk HL0.out rfl (by simp)
  have hk : Dsk w1 db L := hf.blk HK0.out rfl (by simp)
  have l0_1 : w1.cell? ⟨lb, 0, none⟩ = some (.int .i64 me) := hl.cell rfl
  have l1_1 : w1.cell? ⟨lb, 1, none⟩ = some (.int .i64 all) := hl.cell rfl
  have l2_1 : w1.cell? ⟨lb, 2, none⟩ = some (.int .i64 at_) := hl.cell rfl
  have l3_1 : w1.cell? ⟨lb, 3, none⟩ = some (.int .i64 x) := hl.cell rfl
  have l4_1 : w1.cell? ⟨lb, 4, none⟩ = some (.int .i64 y) := hl.cell rfl
  have g2_1 := hl.frozen 2
  have g3_1 := hl.frozen 3
  have g4_1 := hl.frozen 4
  have HD1 := Lib.hid hd
  have HF1 : Hid (Fr (fun b => b = lb) B W w1) := HF0.out.trans hf.no
  have HL1 := Lib.hid hl
  have HK1 := Lib.hid hk
  clear hd hf hl hk
  clear l0_0 l1_0 l2_0 l3_0 l4_0 g2_0 g3_0 g4_0
  go_upto_region 3 with fail
  go_quiet (fail)
  obtain ⟨w2, hw2⟩ : ∃ w2 : World, w2 = w1.drewN nq := ⟨_, rfl⟩
  have hd := HD1.out.on (below_drewN (Below.refl _ _) nq)
  have hl : Blk (w1.drewN nq) lb 159 [.int .i64 me, .int .i64 all, .int .i64 at_, .int .i64 x, .int .i64 y] := HL1.out.below (below_drewN (Below.refl _ _) nq) HL1.out.lt
  have hk : Dsk (w1.drewN nq) db L := Blk.below HK1.out (below_drewN (Below.refl _ _) nq) (Blk.lt HK1.out)
  have hf : Fr (fun b => b = lb) B W (w1.drewN nq) := HF1.out.trans (Fr.of_below (below_drewN (Below.refl _ _) nq) HD1.out.size)
  rw [← hw2] at hd hl hk hf ⊢
  clear hw2
  have l0_2 : w2.cell? ⟨lb, 0, none⟩ = some (.int .i64 me) := hl.cell rfl
  have l1_2 : w2.cell? ⟨lb, 1, none⟩ = some (.int .i64 all) := hl.cell rfl
  have l2_2 : w2.cell? ⟨lb, 2, none⟩ = some (.int .i64 at_) := hl.cell rfl
  have l3_2 : w2.cell? ⟨lb, 3, none⟩ = some (.int .i64 x) := hl.cell rfl
  have l4_2 : w2.cell? ⟨lb, 4, none⟩ = some (.int .i64 y) := hl.cell rfl
  have g2_2 := hl.frozen 2
  have g3_2 := hl.frozen 3
  have g4_2 := hl.frozen 4
  have HD2 := Lib.hid hd
  have HK2 : Hid (Dsk w2 db L) := hk
  have HL2 := Lib.hid hl
  have HF2 : Hid (Fr (fun b => b = lb) B W w2) := hf
  clear hd hk hf hl
  clear l0_1 l1_1 l2_1 l3_1 l4_1 g2_1 g3_1 g4_1
  go_wp2_with fail
  go_ret
  exact ⟨rfl, ⟨_, _, HD2.out⟩, HL2.out, HF2.out⟩
set_option maxRecDepth 100000 in
set_option maxHeartbeats 8000000 in
theorem bake_a5c {me all at_ x y : Int} (a0 : (at_ == 0) = false) (a1 : (at_ == 1) = false) (a2 : (at_ == 2) = false) (a3 : (at_ == 3) = false) (a4 : (at_ == 4) = false) (c0 : ((iw (d.load (iw (2 + iw (2 * x)))).1) != 0) = true) (c1 : decide ((iw (d.load (iw (2 + iw (2 * x)))).1) < y) = false) (c2 : ((iw (d.load (iw (2 + iw (2 * x)))).1) == y) = false) (h : DM W B L vl va d) (hd : Dsk W db L) (hl0 : Blk W lb 159 [.int .i64 me, .int .i64 all, .int .i64 at_, .int .i64 x, .int .i64 y]) (hB : B ≤ lb) (hn : d.log.length ≤ 100000) : Calls Try.prog 125 #[.pointer (some ⟨lb, 0, none⟩), .pointer (some ⟨db, 0, none⟩)] W (LkR B L lb W (Lk.bakeA ⟨6, me, all, at_, x, y⟩ d)) := by
  have l0_0 : W.cell? ⟨lb, 0, none⟩ = some (.int .i64 me) := hl0.cell rfl
  have l1_0 : W.cell? ⟨lb, 1, none⟩ = some (.int .i64 all) := hl0.cell rfl
  have l2_0 : W.cell? ⟨lb, 2, none⟩ = some (.int .i64 at_) := hl0.cell rfl
  have l3_0 : W.cell? ⟨lb, 3, none⟩ = some (.int .i64 x) := hl0.cell rfl
  have l4_0 : W.cell? ⟨lb, 4, none⟩ = some (.int .i64 y) := hl0.cell rfl
  have g2_0 := hl0.frozen 2
  have g3_0 := hl0.frozen 3
  have g4_0 := hl0.frozen 4
  have HD0 := Lib.hid h
  have HK0 := Lib.hid hd
  have HL0 := Lib.hid hl0
  have HF0 : Hid (Fr (fun b => b = lb) B W W) := Fr.refl _ _ _
  clear h hd hl0
  have e1 : Lk.bakeA ⟨6, me, all, at_, x, y⟩ d = ((Lk.oth ⟨6, me, all, at_, x, y⟩ x) == all, ⟨6, me, all, 4, (Lk.oth ⟨6, me, all, at_, x, y⟩ x), y⟩, (d.load (iw (2 + iw (2 * x)))).2) := by unfold Lk.bakeA; dsimp only; rw [a0, a1, a2, a3, a4, c0, c1, c2]; rfl
  rw [e1]
  clear e1
  obtain ⟨o, ho⟩ : ∃ o, o = (Lk.oth ⟨6, me, all, at_, x, y⟩ x) := ⟨_, rfl⟩
  rw [← ho]
  have HO := Lib.hid ho
  clear ho
  have c1' : ¬ wrap64 (d.load (iw (2 + iw (2 * x)))).1 < y := of_decide_eq_false c1
  go_enter Try.func125, Try.ntmps125
  go_wp2_with fail
  refine (dload_any HD0.out HK0.out hn (iw (2 + iw (2 * x)))).mono ?_
  rintro e w1 ⟨rfl, ⟨vl1, va1, hd⟩, hf⟩
  have hl := hf.blk HL0.out rfl (by simp)
  have hk : Dsk w1 db L := hf.blk HK0.out rfl (by simp)
  have l0_1 : w1.cell? ⟨lb, 0, none⟩ = some (.int .i64 me) := hl.cell rfl
  have l1_1 : w1.cell? ⟨lb, 1, none⟩ = some (.int .i64 all) := hl.cell rfl
  have l2_1 : w1.cell? ⟨lb, 2, none⟩ = some (.int .i64 at_) := hl.cell rfl
  have l3_1 : w1.cell? ⟨lb, 3, none⟩ = some (.int .i64 x) := hl.cell rfl
  have l4_1 : w1.cell? ⟨lb, 4, none⟩ = some (.int .i64 y) := hl.cell rfl
  have g2_1 := hl.frozen 2
  have g3_1 := hl.frozen 3
  have g4_1 := hl.frozen 4
  have HD1 := Lib.hid hd
  have HF1 : Hid (Fr (fun b => b = lb) B W w1) := HF0.out.trans hf.no
  have HL1 := Lib.hid hl
  have HK1 := Lib.hid hk
  clear hd hf hl hk
  clear l0_0 l1_0 l2_0 l3_0 l4_0 g2_0 g3_0 g4_0
  go_upto_region 3 with fail
  go_quiet (fail)
  obtain ⟨w2, hw2⟩ : ∃ w2 : World, w2 = w1.drewN nq := ⟨_, rfl⟩
  have hd := HD1.out.on (below_drewN (Below.refl _ _) nq)
  have hl : Blk (w1.drewN nq) lb 159 [.int .i64 me, .int .i64 all, .int .i64 at_, .int .i64 x, .int .i64 y] := HL1.out.below (below_drewN (Below.refl _ _) nq) HL1.out.lt
  have hk : Dsk (w1.drewN nq) db L := Blk.below HK1.out (below_drewN (Below.refl _ _) nq) (Blk.lt HK1.out)
  have hf : Fr (fun b => b = lb) B W (w1.drewN nq) := HF1.out.trans (Fr.of_below (below_drewN (Below.refl _ _) nq) HD1.out.size)
  rw [← hw2] at hd hl hk hf ⊢
  clear hw2
  have l0_2 : w2.cell? ⟨lb, 0, none⟩ = some (.int .i64 me) := hl.cell rfl
  have l1_2 : w2.cell? ⟨lb, 1, none⟩ = some (.int .i64 all) := hl.cell rfl
  have l2_2 : w2.cell? ⟨lb, 2, none⟩ = some (.int .i64 at_) := hl.cell rfl
  have l3_2 : w2.cell? ⟨lb, 3, none⟩ = some (.int .i64 x) := hl.cell rfl
  have l4_2 : w2.cell? ⟨lb, 4, none⟩ = some (.int .i64 y) := hl.cell rfl
  have g2_2 := hl.frozen 2
  have g3_2 := hl.frozen 3
  have g4_2 := hl.frozen 4
  have HD2 := Lib.hid hd
  have HK2 : Hid (Dsk w2 db L) := hk
  have HL2 := Lib.hid hl
  have HF2 : Hid (Fr (fun b => b = lb) B W w2) := hf
  clear hd hk hf hl
  clear l0_1 l1_1 l2_1 l3_1 l4_1 g2_1 g3_1 g4_1
  go_wp2_with fail
  have hd := (HD2.out.off HL2.out rfl 2 (.int .i64 4))
  have hk := (HK2.out.far (p := ⟨lb, 2, none⟩) (HK2.out.blk_ne HL2.out (by decide)) (.int .i64 4))
  have hl : Blk (w2.setCell ⟨lb, 2, none⟩ (.int .i64 4)) lb 159 [.int .i64 me, .int .i64 all, .int .i64 4, .int .i64 x, .int .i64 y] := (HL2.out.set_ 2 (.int .i64 4))
  have hf := (HF2.out.here hB 2 (.int .i64 4))
  generalize (w2.setCell ⟨lb, 2, none⟩ (.int .i64 4)) = w3 at hd hk hl hf ⊢
  have l0_3 : w3.cell? ⟨lb, 0, none⟩ = some (.int .i64 me) := hl.cell rfl
  have l1_3 : w3.cell? ⟨lb, 1, none⟩ = some (.int .i64 all) := hl.cell rfl
  have l2_3 : w3.cell? ⟨lb, 2, none⟩ = some (.int .i64 4) := hl.cell rfl
  have l3_3 : w3.cell? ⟨lb, 3, none⟩ = some (.int .i64 x) := hl.cell rfl
  have l4_3 : w3.cell? ⟨lb, 4, none⟩ = some (.int .i64 y) := hl.cell rfl
  have g2_3 := hl.frozen 2
  have g3_3 := hl.frozen 3
  have g4_3 := hl.frozen 4
  have HD3 := Lib.hid hd
  have HF3 : Hid (Fr (fun b => b = lb) B W w3) := hf
  have HL3 := Lib.hid hl
  have HK3 : Hid (Dsk w3 db L) := hk
  clear hd hf hl hk
  clear l0_2 l1_2 l2_2 l3_2 l4_2 g2_2 g3_2 g4_2
  refine (looks_any (me := me) (all := all) (at_ := 4) (x := x) (y := y) (o := o) HO.out.symm HD3.out HK3.out HL3.out hB).mono ?_
  rintro e w4 ⟨rfl, ⟨vl4, va4, hd⟩, hl, hk, hf⟩
  have l0_4 : w4.cell? ⟨lb, 0, none⟩ = some (.int .i64 me) := hl.cell rfl
  have l1_4 : w4.cell? ⟨lb, 1, none⟩ = some (.int .i64 all) := hl.cell rfl
  have l2_4 : w4.cell? ⟨lb, 2, none⟩ = some (.int .i64 4) := hl.cell rfl
  have l3_4 : w4.cell? ⟨lb, 3, none⟩ = some (.int .i64 o) := hl.cell rfl
  have l4_4 : w4.cell? ⟨lb, 4, none⟩ = some (.int .i64 y) := hl.cell rfl
  have g2_4 := hl.frozen 2
  have g3_4 := hl.frozen 3
  have g4_4 := hl.frozen 4
  have HD4 := Lib.hid hd
  have HF4 : Hid (Fr (fun b => b = lb) B W w4) := HF3.out.trans hf
  have HL4 := Lib.hid hl
  have HK4 : Hid (Dsk w4 db L) := hk
  clear hd hf hl hk
  clear l0_3 l1_3 l2_3 l3_3 l4_3 g2_3 g3_3 g4_3
  go_wp2_with fail
  go_ret
  exact ⟨rfl, ⟨_, _, HD4.out⟩, HL4.out, HF4.out⟩
set_option maxRecDepth 100000 in
set_option maxHeartbeats 8000000 in
theorem bake_a5d {me all at_ x y : Int} (a0 : (at_ == 0) = false) (a1 : (at_ == 1) = false) (a2 : (at_ == 2) = false) (a3 : (at_ == 3) = false) (a4 : (at_ == 4) = false) (c0 : ((iw (d.load (iw (2 + iw (2 * x)))).1) != 0) = true) (c1 : decide ((iw (d.load (iw (2 + iw (2 * x)))).1) < y) = false) (c2 : ((iw (d.load (iw (2 + iw (2 * x)))).1) == y) = true) (c3 : decide (x < me) = true) (h : DM W B L vl va d) (hd : Dsk W db L) (hl0 : Blk W lb 159 [.int .i64 me, .int .i64 all, .int .i64 at_, .int .i64 x, .int .i64 y]) (hB : B ≤ lb) (hn : d.log.length ≤ 100000) : Calls Try.prog 125 #[.pointer (some ⟨lb, 0, none⟩), .pointer (some ⟨db, 0, none⟩)] W (LkR B L lb W (Lk.bakeA ⟨6, me, all, at_, x, y⟩ d)) := by
  have l0_0 : W.cell? ⟨lb, 0, none⟩ = some (.int .i64 me) := hl0.cell rfl
  have l1_0 : W.cell? ⟨lb, 1, none⟩ = some (.int .i64 all) := hl0.cell rfl
  have l2_0 : W.cell? ⟨lb, 2, none⟩ = some (.int .i64 at_) := hl0.cell rfl
  have l3_0 : W.cell? ⟨lb, 3, none⟩ = some (.int .i64 x) := hl0.cell rfl
  have l4_0 : W.cell? ⟨lb, 4, none⟩ = some (.int .i64 y) := hl0.cell rfl
  have g2_0 := hl0.frozen 2
  have g3_0 := hl0.frozen 3
  have g4_0 := hl0.frozen 4
  have HD0 := Lib.hid h
  have HK0 := Lib.hid hd
  have HL0 := Lib.hid hl0
  have HF0 : Hid (Fr (fun b => b = lb) B W W) := Fr.refl _ _ _
  clear h hd hl0
  have e1 : Lk.bakeA ⟨6, me, all, at_, x, y⟩ d = (false, ⟨6, me, all, at_, x, y⟩, (d.load (iw (2 + iw (2 * x)))).2) := by unfold Lk.bakeA; dsimp only; rw [a0, a1, a2, a3, a4, c0, c1, c2, c3]; rfl
  rw [e1]
  clear e1
  have c1' : ¬ wrap64 (d.load (iw (2 + iw (2 * x)))).1 < y := of_decide_eq_false c1
  have c3' : x < me := of_decide_eq_true c3
  go_enter Try.func125, Try.ntmps125
  go_wp2_with fail
  refine (dload_any HD0.out HK0.out hn (iw (2 + iw (2 * x)))).mono ?_
  rintro e w1 ⟨rfl, ⟨vl1, va1, hd⟩, hf⟩
  have hl := hf.blk HL0.out rfl (by simp)
  have hk : Dsk w1 db L := hf.blk HK0.out rfl (by simp)
  have l0_1 : w1.cell? ⟨lb, 0, none⟩ = some (.int .i64 me) := hl.cell rfl
  have l1_1 : w1.cell? ⟨lb, 1, none⟩ = some (.int .i64 all) := hl.cell rfl
  have l2_1 : w1.cell? ⟨lb, 2, none⟩ = some (.int .i64 at_) := hl.cell rfl
  have l3_1 : w1.cell? ⟨lb, 3, none⟩ = some (.int .i64 x) := hl.cell rfl
  have l4_1 : w1.cell? ⟨lb, 4, none⟩ = some (.int .i64 y) := hl.cell rfl
  have g2_1 := hl.frozen 2
  have g3_1 := hl.frozen 3
  have g4_1 := hl.frozen 4
  have HD1 := Lib.hid hd
  have HF1 : Hid (Fr (fun b => b = lb) B W w1) := HF0.out.trans hf.no
  have HL1 := Lib.hid hl
  have HK1 := Lib.hid hk
  clear hd hf hl hk
  clear l0_0 l1_0 l2_0 l3_0 l4_0 g2_0 g3_0 g4_0
  go_upto_region 3 with fail
  go_quiet (fail)
  obtain ⟨w2, hw2⟩ : ∃ w2 : World, w2 = w1.drewN nq := ⟨_, rfl⟩
  have hd := HD1.out.on (below_drewN (Below.refl _ _) nq)
  have hl : Blk (w1.drewN nq) lb 159 [.int .i64 me, .int .i64 all, .int .i64 at_, .int .i64 x, .int .i64 y] := HL1.out.below (below_drewN (Below.refl _ _) nq) HL1.out.lt
  have hk : Dsk (w1.drewN nq) db L := Blk.below HK1.out (below_drewN (Below.refl _ _) nq) (Blk.lt HK1.out)
  have hf : Fr (fun b => b = lb) B W (w1.drewN nq) := HF1.out.trans (Fr.of_below (below_drewN (Below.refl _ _) nq) HD1.out.size)
  rw [← hw2] at hd hl hk hf ⊢
  clear hw2
  have l0_2 : w2.cell? ⟨lb, 0, none⟩ = some (.int .i64 me) := hl.cell rfl
  have l1_2 : w2.cell? ⟨lb, 1, none⟩ = some (.int .i64 all) := hl.cell rfl
  have l2_2 : w2.cell? ⟨lb, 2, none⟩ = some (.int .i64 at_) := hl.cell rfl
  have l3_2 : w2.cell? ⟨lb, 3, none⟩ = some (.int .i64 x) := hl.cell rfl
  have l4_2 : w2.cell? ⟨lb, 4, none⟩ = some (.int .i64 y) := hl.cell rfl
  have g2_2 := hl.frozen 2
  have g3_2 := hl.frozen 3
  have g4_2 := hl.frozen 4
  have HD2 := Lib.hid hd
  have HK2 : Hid (Dsk w2 db L) := hk
  have HL2 := Lib.hid hl
  have HF2 : Hid (Fr (fun b => b = lb) B W w2) := hf
  clear hd hk hf hl
  clear l0_1 l1_1 l2_1 l3_1 l4_1 g2_1 g3_1 g4_1
  go_wp2_with fail
  go_ret
  exact ⟨rfl, ⟨_, _, HD2.out⟩, HL2.out, HF2.out⟩
set_option maxRecDepth 100000 in
set_option maxHeartbeats 8000000 in
theorem bake_a5e {me all at_ x y : Int} (a0 : (at_ == 0) = false) (a1 : (at_ == 1) = false) (a2 : (at_ == 2) = false) (a3 : (at_ == 3) = false) (a4 : (at_ == 4) = false) (c0 : ((iw (d.load (iw (2 + iw (2 * x)))).1) != 0) = true) (c1 : decide ((iw (d.load (iw (2 + iw (2 * x)))).1) < y) = false) (c2 : ((iw (d.load (iw (2 + iw (2 * x)))).1) == y) = true) (c3 : decide (x < me) = false) (h : DM W B L vl va d) (hd : Dsk W db L) (hl0 : Blk W lb 159 [.int .i64 me, .int .i64 all, .int .i64 at_, .int .i64 x, .int .i64 y]) (hB : B ≤ lb) (hn : d.log.length ≤ 100000) : Calls Try.prog 125 #[.pointer (some ⟨lb, 0, none⟩), .pointer (some ⟨db, 0, none⟩)] W (LkR B L lb W (Lk.bakeA ⟨6, me, all, at_, x, y⟩ d)) := by
  have l0_0 : W.cell? ⟨lb, 0, none⟩ = some (.int .i64 me) := hl0.cell rfl
  have l1_0 : W.cell? ⟨lb, 1, none⟩ = some (.int .i64 all) := hl0.cell rfl
  have l2_0 : W.cell? ⟨lb, 2, none⟩ = some (.int .i64 at_) := hl0.cell rfl
  have l3_0 : W.cell? ⟨lb, 3, none⟩ = some (.int .i64 x) := hl0.cell rfl
  have l4_0 : W.cell? ⟨lb, 4, none⟩ = some (.int .i64 y) := hl0.cell rfl
  have g2_0 := hl0.frozen 2
  have g3_0 := hl0.frozen 3
  have g4_0 := hl0.frozen 4
  have HD0 := Lib.hid h
  have HK0 := Lib.hid hd
  have HL0 := Lib.hid hl0
  have HF0 : Hid (Fr (fun b => b = lb) B W W) := Fr.refl _ _ _
  clear h hd hl0
  have e1 : Lk.bakeA ⟨6, me, all, at_, x, y⟩ d = ((Lk.oth ⟨6, me, all, at_, x, y⟩ x) == all, ⟨6, me, all, 4, (Lk.oth ⟨6, me, all, at_, x, y⟩ x), y⟩, (d.load (iw (2 + iw (2 * x)))).2) := by unfold Lk.bakeA; dsimp only; rw [a0, a1, a2, a3, a4, c0, c1, c2, c3]; rfl
  rw [e1]
  clear e1
  obtain ⟨o, ho⟩ : ∃ o, o = (Lk.oth ⟨6, me, all, at_, x, y⟩ x) := ⟨_, rfl⟩
  rw [← ho]
  have HO := Lib.hid ho
  clear ho
  have c1' : ¬ wrap64 (d.load (iw (2 + iw (2 * x)))).1 < y := of_decide_eq_false c1
  have c3' : ¬ x < me := of_decide_eq_false c3
  go_enter Try.func125, Try.ntmps125
  go_wp2_with fail
  refine (dload_any HD0.out HK0.out hn (iw (2 + iw (2 * x)))).mono ?_
  rintro e w1 ⟨rfl, ⟨vl1, va1, hd⟩, hf⟩
  have hl := hf.blk HL0.out rfl (by simp)
  have hk : Dsk w1 db L := hf.blk HK0.out rfl (by simp)
  have l0_1 : w1.cell? ⟨lb, 0, none⟩ = some (.int .i64 me) := hl.cell rfl
  have l1_1 : w1.cell? ⟨lb, 1, none⟩ = some (.int .i64 all) := hl.cell rfl
  have l2_1 : w1.cell? ⟨lb, 2, none⟩ = some (.int .i64 at_) := hl.cell rfl
  have l3_1 : w1.cell? ⟨lb, 3, none⟩ = some (.int .i64 x) := hl.cell rfl
  have l4_1 : w1.cell? ⟨lb, 4, none⟩ = some (.int .i64 y) := hl.cell rfl
  have g2_1 := hl.frozen 2
  have g3_1 := hl.frozen 3
  have g4_1 := hl.frozen 4
  have HD1 := Lib.hid hd
  have HF1 : Hid (Fr (fun b => b = lb) B W w1) := HF0.out.trans hf.no
  have HL1 := Lib.hid hl
  have HK1 := Lib.hid hk
  clear hd hf hl hk
  clear l0_0 l1_0 l2_0 l3_0 l4_0 g2_0 g3_0 g4_0
  go_upto_region 3 with fail
  go_quiet (fail)
  obtain ⟨w2, hw2⟩ : ∃ w2 : World, w2 = w1.drewN nq := ⟨_, rfl⟩
  have hd := HD1.out.on (below_drewN (Below.refl _ _) nq)
  have hl : Blk (w1.drewN nq) lb 159 [.int .i64 me, .int .i64 all, .int .i64 at_, .int .i64 x, .int .i64 y] := HL1.out.below (below_drewN (Below.refl _ _) nq) HL1.out.lt
  have hk : Dsk (w1.drewN nq) db L := Blk.below HK1.out (below_drewN (Below.refl _ _) nq) (Blk.lt HK1.out)
  have hf : Fr (fun b => b = lb) B W (w1.drewN nq) := HF1.out.trans (Fr.of_below (below_drewN (Below.refl _ _) nq) HD1.out.size)
  rw [← hw2] at hd hl hk hf ⊢
  clear hw2
  have l0_2 : w2.cell? ⟨lb, 0, none⟩ = some (.int .i64 me) := hl.cell rfl
  have l1_2 : w2.cell? ⟨lb, 1, none⟩ = some (.int .i64 all) := hl.cell rfl
  have l2_2 : w2.cell? ⟨lb, 2, none⟩ = some (.int .i64 at_) := hl.cell rfl
  have l3_2 : w2.cell? ⟨lb, 3, none⟩ = some (.int .i64 x) := hl.cell rfl
  have l4_2 : w2.cell? ⟨lb, 4, none⟩ = some (.int .i64 y) := hl.cell rfl
  have g2_2 := hl.frozen 2
  have g3_2 := hl.frozen 3
  have g4_2 := hl.frozen 4
  have HD2 := Lib.hid hd
  have HK2 : Hid (Dsk w2 db L) := hk
  have HL2 := Lib.hid hl
  have HF2 : Hid (Fr (fun b => b = lb) B W w2) := hf
  clear hd hk hf hl
  clear l0_1 l1_1 l2_1 l3_1 l4_1 g2_1 g3_1 g4_1
  go_wp2_with fail
  have hd := (HD2.out.off HL2.out rfl 2 (.int .i64 4))
  have hk := (HK2.out.far (p := ⟨lb, 2, none⟩) (HK2.out.blk_ne HL2.out (by decide)) (.int .i64 4))
  have hl : Blk (w2.setCell ⟨lb, 2, none⟩ (.int .i64 4)) lb 159 [.int .i64 me, .int .i64 all, .int .i64 4, .int .i64 x, .int .i64 y] := (HL2.out.set_ 2 (.int .i64 4))
  have hf := (HF2.out.here hB 2 (.int .i64 4))
  generalize (w2.setCell ⟨lb, 2, none⟩ (.int .i64 4)) = w3 at hd hk hl hf ⊢
  have l0_3 : w3.cell? ⟨lb, 0, none⟩ = some (.int .i64 me) := hl.cell rfl
  have l1_3 : w3.cell? ⟨lb, 1, none⟩ = some (.int .i64 all) := hl.cell rfl
  have l2_3 : w3.cell? ⟨lb, 2, none⟩ = some (.int .i64 4) := hl.cell rfl
  have l3_3 : w3.cell? ⟨lb, 3, none⟩ = some (.int .i64 x) := hl.cell rfl
  have l4_3 : w3.cell? ⟨lb, 4, none⟩ = some (.int .i64 y) := hl.cell rfl
  have g2_3 := hl.frozen 2
  have g3_3 := hl.frozen 3
  have g4_3 := hl.frozen 4
  have HD3 := Lib.hid hd
  have HF3 : Hid (Fr (fun b => b = lb) B W w3) := hf
  have HL3 := Lib.hid hl
  have HK3 : Hid (Dsk w3 db L) := hk
  clear hd hf hl hk
  clear l0_2 l1_2 l2_2 l3_2 l4_2 g2_2 g3_2 g4_2
  refine (looks_any (me := me) (all := all) (at_ := 4) (x := x) (y := y) (o := o) HO.out.symm HD3.out HK3.out HL3.out hB).mono ?_
  rintro e w4 ⟨rfl, ⟨vl4, va4, hd⟩, hl, hk, hf⟩
  have l0_4 : w4.cell? ⟨lb, 0, none⟩ = some (.int .i64 me) := hl.cell rfl
  have l1_4 : w4.cell? ⟨lb, 1, none⟩ = some (.int .i64 all) := hl.cell rfl
  have l2_4 : w4.cell? ⟨lb, 2, none⟩ = some (.int .i64 4) := hl.cell rfl
  have l3_4 : w4.cell? ⟨lb, 3, none⟩ = some (.int .i64 o) := hl.cell rfl
  have l4_4 : w4.cell? ⟨lb, 4, none⟩ = some (.int .i64 y) := hl.cell rfl
  have g2_4 := hl.frozen 2
  have g3_4 := hl.frozen 3
  have g4_4 := hl.frozen 4
  have HD4 := Lib.hid hd
  have HF4 : Hid (Fr (fun b => b = lb) B W w4) := HF3.out.trans hf
  have HL4 := Lib.hid hl
  have HK4 : Hid (Dsk w4 db L) := hk
  clear hd hf hl hk
  clear l0_3 l1_3 l2_3 l3_3 l4_3 g2_3 g3_3 g4_3
  go_wp2_with fail
  go_ret
  exact ⟨rfl, ⟨_, _, HD4.out⟩, HL4.out, HF4.out⟩
theorem bake_acq (hk : l.kd = 6) (h : DM W B L vl va d) (hd : Dsk W db L) (hl : LkB W lb l) (hB : B ≤ lb) (hn : d.log.length ≤ 100000) : Calls Try.prog 125 #[.pointer (some ⟨lb, 0, none⟩), .pointer (some ⟨db, 0, none⟩)] W (LkR B L lb W (l.acq d)) := by
  obtain ⟨kd, me, all, at_, x, y⟩ := l
  dsimp only at hk
  subst hk
  change Calls _ _ _ _ (LkR B L lb W (Lk.bakeA ⟨6, me, all, at_, x, y⟩ d))
  cases a0 : at_ == 0 with
  | true =>
    cases hy : (Lk.oth ⟨6, me, all, at_, x, y⟩ (-1)) == all with
    | true => exact bake_a0t a0 hy h hd hl hB hn
    | false => exact bake_a0f a0 hy h hd hl hB hn
  | false =>
  cases a1 : at_ == 1 with
  | true =>
    by_cases hm : y < iw (d.load (iw (2 + iw (2 * x)))).1
    · exact bake_a1t a0 a1 hm h hd hl hB hn
    · exact bake_a1f a0 a1 hm h hd hl hB hn
  | false =>
  cases a2 : at_ == 2 with
  | true => exact bake_a2 a0 a1 a2 h hd hl hB hn
  | false =>
  cases a3 : at_ == 3 with
  | true => exact bake_a3 a0 a1 a2 a3 h hd hl hB hn
  | false =>
  cases a4 : at_ == 4 with
  | true =>
    cases hz : (d.load (iw (1 + iw (2 * x)))).1 == 0 with
    | true => exact bake_a4t a0 a1 a2 a3 a4 hz h hd hl hB hn
    | false => exact bake_a4f a0 a1 a2 a3 a4 hz h hd hl hB hn
  | false =>
    cases c0 : (iw (d.load (iw (2 + iw (2 * x)))).1) != 0 with
    | false => exact bake_a5a a0 a1 a2 a3 a4 c0 h hd hl hB hn
    | true =>
    cases c1 : decide ((iw (d.load (iw (2 + iw (2 * x)))).1) < y) with
    | true => exact bake_a5b a0 a1 a2 a3 a4 c0 c1 h hd hl hB hn
    | false =>
    cases c2 : (iw (d.load (iw (2 + iw (2 * x)))).1) == y with
    | false => exact bake_a5c a0 a1 a2 a3 a4 c0 c1 c2 h hd hl hB hn
    | true =>
    cases c3 : decide (x < me) with
    | true => exact bake_a5d a0 a1 a2 a3 a4 c0 c1 c2 c3 h hd hl hB hn
    | false => exact bake_a5e a0 a1 a2 a3 a4 c0 c1 c2 c3 h hd hl hB hn
set_option maxRecDepth 100000 in
set_option maxHeartbeats 4000000 in
theorem bake_rel (hk : l.kd = 6) (h : DM W B L vl va d) (hd : Dsk W db L) (hl : LkB W lb l) (hB : B ≤ lb) (hn : d.log.length ≤ 100000) : Calls Try.prog 127 #[.pointer (some ⟨lb, 0, none⟩), .pointer (some ⟨db, 0, none⟩)] W (LkR B L lb W (l.rel d)) := by
  obtain ⟨kd, me, all, at_, x, y⟩ := l
  dsimp only at hk
  subst hk
  have hl0 : Blk W lb 159 [.int .i64 me, .int .i64 all, .int .i64 at_, .int .i64 x, .int .i64 y] := hl
  have l0_0 : W.cell? ⟨lb, 0, none⟩ = some (.int .i64 me) := hl0.cell rfl
  have l1_0 : W.cell? ⟨lb, 1, none⟩ = some (.int .i64 all) := hl0.cell rfl
  have l2_0 : W.cell? ⟨lb, 2, none⟩ = some (.int .i64 at_) := hl0.cell rfl
  have l3_0 : W.cell? ⟨lb, 3, none⟩ = some (.int .i64 x) := hl0.cell rfl
  have l4_0 : W.cell? ⟨lb, 4, none⟩ = some (.int .i64 y) := hl0.cell rfl
  have g2_0 := hl0.frozen 2
  have g3_0 := hl0.frozen 3
  have g4_0 := hl0.frozen 4
  have HD0 := Lib.hid h
  have HK0 := Lib.hid hd
  have HL0 := Lib.hid hl0
  have HF0 : Hid (Fr (fun b => b = lb) B W W) := Fr.refl _ _ _
  clear h hd hl hl0
  have e1 : Lk.rel ⟨6, me, all, at_, x, y⟩ d = (true, ⟨6, me, all, at_, x, y⟩, d.store (iw (2 + iw (2 * me))) 0) := rfl
  rw [e1]
  clear e1
  go_enter Try.func127, Try.ntmps127
  go_wp2_with fail
  refine (dstore_any HD0.out HK0.out hn (iw (2 + iw (2 * me))) 0).mono ?_
  rintro e w1 ⟨rfl, ⟨vl1, va1, hd⟩, hf⟩
  have hl := hf.blk HL0.out rfl (by simp)
  have hk : Dsk w1 db L := hf.blk HK0.out rfl (by simp)
  have l0_1 : w1.cell? ⟨lb, 0, none⟩ = some (.int .i64 me) := hl.cell rfl
  have l1_1 : w1.cell? ⟨lb, 1, none⟩ = some (.int .i64 all) := hl.cell rfl
  have l2_1 : w1.cell? ⟨lb, 2, none⟩ = some (.int .i64 at_) := hl.cell rfl
  have l3_1 : w1.cell? ⟨lb, 3, none⟩ = some (.int .i64 x) := hl.cell rfl
  have l4_1 : w1.cell? ⟨lb, 4, none⟩ = some (.int .i64 y) := hl.cell rfl
  have g2_1 := hl.frozen 2
  have g3_1 := hl.frozen 3
  have g4_1 := hl.frozen 4
  have HD1 := Lib.hid hd
  have HF1 : Hid (Fr (fun b => b = lb) B W w1) := HF0.out.trans hf.no
  have HL1 := Lib.hid hl
  have HK1 := Lib.hid hk
  clear hd hf hl hk
  clear l0_0 l1_0 l2_0 l3_0 l4_0 g2_0 g3_0 g4_0
  go_wp2_with fail
  go_ret
  exact ⟨rfl, ⟨_, _, HD1.out⟩, HL1.out, HF1.out⟩
end
end Go.Proofs.Ytjnmlgfkiebkgaa
