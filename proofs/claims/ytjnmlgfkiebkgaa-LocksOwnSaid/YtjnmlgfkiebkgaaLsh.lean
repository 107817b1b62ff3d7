/-
  The tasks: sharing's step.
-/
import Derived.Test.YtjnmlgfkiebkgaaLst
namespace Go.Proofs.Ytjnmlgfkiebkgaa
open Go.RowKit
set_option linter.unusedVariables false
set_option linter.unusedSimpArgs false

section
variable {W : World} {B db lb s tb : Nat} {L : DL} {vl va : Value} {t : Ts}
set_option maxRecDepth 100000 in
set_option maxHeartbeats 1000000 in
theorem shrA {b w : Int} (hb : decide (b < 0) = true) (ha : t.task = .shr b w false) (h : TsM W B L s lb tb vl va t) (hd : Dsk W db L) (hB3 : B ≤ tb) (hn : t.d.log.length ≤ 100000) :
    Calls Try.prog 92 #[.pointer (some ⟨tb, 0, none⟩), .pointer (some ⟨db, 0, none⟩)] W (TsR B L s lb tb W t.step) := by
  obtain ⟨ov, p, l, al, sh, d⟩ := t
  dsimp only at ha hn
  subst ha
  have ht0 : Blk W tb 113 [.pointer (some ⟨s, 0, none⟩), .int .i64 b, .int .i64 w, .bool false] := h.tk
  have t0 : W.cell? ⟨tb, 0, none⟩ = some (.pointer (some ⟨s, 0, none⟩)) := ht0.cell rfl
  have t1 : W.cell? ⟨tb, 1, none⟩ = some (.int .i64 b) := ht0.cell rfl
  have t2 : W.cell? ⟨tb, 2, none⟩ = some (.int .i64 w) := ht0.cell rfl
  have t3 : W.cell? ⟨tb, 3, none⟩ = some (.bool false) := ht0.cell rfl
  have g2 := ht0.frozen 2
  have g3 := ht0.frozen 3
  have hs0 : Blk W s 101 (seL lb l.kd al sh) := h.se
  have HD : Hid (DM W B L vl va d) := h.dm
  have HDk := Lib.hid hd
  have HL : Hid (LkB W lb l) := h.lk
  have HS := Lib.hid hs0
  have HT := Lib.hid ht0
  have N1 := Lib.hid h.ne1
  have N2 := Lib.hid h.ne2
  have N3 := Lib.hid h.ne3
  clear h hd hs0 ht0
  have e9 : Ts.step ⟨ov, .shr b w false, l, al, sh, d⟩ = ⟨false, .shr b (iw (d.load 1).1) (true), l, al, sh, (d.load 1).2⟩ := by unfold Ts.step; dsimp only; rw [hb]; rfl
  rw [e9]
  clear e9
  go_enter Try.func92, Try.ntmps92
  go_wp2_with fail
  refine (dload_any HD.out HDk.out hn 1).mono ?_
  rintro e w1 ⟨rfl, ⟨vl1, va1, hd1⟩, hf1⟩
  have hs1 := hf1.blk HS.out rfl (by simp)
  have hl1 := hf1.blk HL.out (lkT_mine _) (by simp)
  have ht1 := hf1.blk HT.out rfl (by simp)
  have t1' : w1.cell? ⟨tb, 1, none⟩ = some (.int .i64 b) := ht1.cell rfl
  have t2' : w1.cell? ⟨tb, 2, none⟩ = some (.int .i64 w) := ht1.cell rfl
  have t3' : w1.cell? ⟨tb, 3, none⟩ = some (.bool false) := ht1.cell rfl
  have g2' := ht1.frozen 2
  have g3' := ht1.frozen 3
  have HD1 := Lib.hid hd1
  have HL1 := Lib.hid hl1
  have HF1 := Lib.hid hf1
  have HS1 := Lib.hid hs1
  have HT1 := Lib.hid ht1
  clear hd1 hl1 hf1 hs1 ht1
  go_wp2_with fail
  go_ret
  exact ⟨rfl, ⟨_, _, (HD1.out.off HT1.out rfl 2 _).off (HT1.out.set_ 2 _) rfl 3 _, (HS1.out.far N2.out _).far N2.out _, (HL1.out.far N3.out _).far N3.out _, (HT1.out.set_ 2 (.int .i64 (iw (d.load 1).1))).set_ 3 (.bool (true))⟩, Fr.sett (Fr.sett HF1.out.fno hB3 _ _) hB3 _ _⟩
set_option maxRecDepth 100000 in
set_option maxHeartbeats 1000000 in
theorem shrB {b w : Int} (hb : decide (b < 0) = false) (ha : t.task = .shr b w false) (h : TsM W B L s lb tb vl va t) (hd : Dsk W db L) (hB3 : B ≤ tb) (hn : t.d.log.length ≤ 100000) :
    Calls Try.prog 92 #[.pointer (some ⟨tb, 0, none⟩), .pointer (some ⟨db, 0, none⟩)] W (TsR B L s lb tb W t.step) := by
  obtain ⟨ov, p, l, al, sh, d⟩ := t
  dsimp only at ha hn
  subst ha
  have ht0 : Blk W tb 113 [.pointer (some ⟨s, 0, none⟩), .int .i64 b, .int .i64 w, .bool false] := h.tk
  have t0 : W.cell? ⟨tb, 0, none⟩ = some (.pointer (some ⟨s, 0, none⟩)) := ht0.cell rfl
  have t1 : W.cell? ⟨tb, 1, none⟩ = some (.int .i64 b) := ht0.cell rfl
  have t2 : W.cell? ⟨tb, 2, none⟩ = some (.int .i64 w) := ht0.cell rfl
  have t3 : W.cell? ⟨tb, 3, none⟩ = some (.bool false) := ht0.cell rfl
  have g2 := ht0.frozen 2
  have g3 := ht0.frozen 3
  have hs0 : Blk W s 101 (seL lb l.kd al sh) := h.se
  have HD : Hid (DM W B L vl va d) := h.dm
  have HDk := Lib.hid hd
  have HL : Hid (LkB W lb l) := h.lk
  have HS := Lib.hid hs0
  have HT := Lib.hid ht0
  have N1 := Lib.hid h.ne1
  have N2 := Lib.hid h.ne2
  have N3 := Lib.hid h.ne3
  clear h hd hs0 ht0
  have e9 : Ts.step ⟨ov, .shr b w false, l, al, sh, d⟩ = ⟨false, .shr b (iw (d.load 1).1) (decide (0 ≤ iw (d.load 1).1)), l, al, sh, (d.load 1).2⟩ := by unfold Ts.step; dsimp only; rw [hb]; rfl
  rw [e9]
  clear e9
  go_enter Try.func92, Try.ntmps92
  go_wp2_with fail
  refine (dload_any HD.out HDk.out hn 1).mono ?_
  rintro e w1 ⟨rfl, ⟨vl1, va1, hd1⟩, hf1⟩
  have hs1 := hf1.blk HS.out rfl (by simp)
  have hl1 := hf1.blk HL.out (lkT_mine _) (by simp)
  have ht1 := hf1.blk HT.out rfl (by simp)
  have t1' : w1.cell? ⟨tb, 1, none⟩ = some (.int .i64 b) := ht1.cell rfl
  have t2' : w1.cell? ⟨tb, 2, none⟩ = some (.int .i64 w) := ht1.cell rfl
  have t3' : w1.cell? ⟨tb, 3, none⟩ = some (.bool false) := ht1.cell rfl
  have g2' := ht1.frozen 2
  have g3' := ht1.frozen 3
  have HD1 := Lib.hid hd1
  have HL1 := Lib.hid hl1
  have HF1 := Lib.hid hf1
  have HS1 := Lib.hid hs1
  have HT1 := Lib.hid ht1
  clear hd1 hl1 hf1 hs1 ht1
  go_wp2_with fail
  go_ret
  exact ⟨rfl, ⟨_, _, (HD1.out.off HT1.out rfl 2 _).off (HT1.out.set_ 2 _) rfl 3 _, (HS1.out.far N2.out _).far N2.out _, (HL1.out.far N3.out _).far N3.out _, (HT1.out.set_ 2 (.int .i64 (iw (d.load 1).1))).set_ 3 (.bool (decide (0 ≤ iw (d.load 1).1)))⟩, Fr.sett (Fr.sett HF1.out.fno hB3 _ _) hB3 _ _⟩
set_option maxRecDepth 100000 in
set_option maxHeartbeats 1000000 in
theorem shrC {b w : Int} (hs : (t.d.swap 1 (uw w) (uw (iw (w + b)))).1 = false) (ha : t.task = .shr b w true) (h : TsM W B L s lb tb vl va t) (hd : Dsk W db L) (hB1 : B ≤ s) (hB3 : B ≤ tb) (hn : t.d.log.length ≤ 100000) :
    Calls Try.prog 92 #[.pointer (some ⟨tb, 0, none⟩), .pointer (some ⟨db, 0, none⟩)] W (TsR B L s lb tb W t.step) := by
  obtain ⟨ov, p, l, al, sh, d⟩ := t
  dsimp only at ha hn hs
  subst ha
  have ht0 : Blk W tb 113 [.pointer (some ⟨s, 0, none⟩), .int .i64 b, .int .i64 w, .bool true] := h.tk
  have t0 : W.cell? ⟨tb, 0, none⟩ = some (.pointer (some ⟨s, 0, none⟩)) := ht0.cell rfl
  have t1 : W.cell? ⟨tb, 1, none⟩ = some (.int .i64 b) := ht0.cell rfl
  have t2 : W.cell? ⟨tb, 2, none⟩ = some (.int .i64 w) := ht0.cell rfl
  have t3 : W.cell? ⟨tb, 3, none⟩ = some (.bool true) := ht0.cell rfl
  have g2 := ht0.frozen 2
  have g3 := ht0.frozen 3
  have hs0 : Blk W s 101 (seL lb l.kd al sh) := h.se
  have s0 : W.cell? ⟨s, 2, none⟩ = some (.bool sh) := hs0.cell rfl
  have HD : Hid (DM W B L vl va d) := h.dm
  have HDk := Lib.hid hd
  have HL : Hid (LkB W lb l) := h.lk
  have HS := Lib.hid hs0
  have HT := Lib.hid ht0
  have N1 := Lib.hid h.ne1
  have N2 := Lib.hid h.ne2
  have N3 := Lib.hid h.ne3
  clear h hd hs0 ht0
  have e9 : Ts.step ⟨ov, .shr b w true, l, al, sh, d⟩ = ⟨false, .shr b w false, l, al, sh, (d.swap 1 (uw w) (uw (iw (w + b)))).2⟩ := by unfold Ts.step; dsimp only; rw [hs]; rfl
  rw [e9]
  clear e9
  have HW := Lib.hid hs
  clear hs
  go_enter Try.func92, Try.ntmps92
  go_upto_region 6 with fail
  have hD0 := HD.out.off HT.out rfl 3 (.bool false)
  have hT0 := HT.out.set_ 3 (.bool false)
  have hS0 := HS.out.far N2.out (p := ⟨tb, 3, none⟩) (.bool false)
  have hL0 := Blk.far HL.out N3.out (p := ⟨tb, 3, none⟩) (.bool false)
  have hK0 : Dsk (W.setCell ⟨tb, 3, none⟩ (.bool false)) db L := Blk.far HDk.out (HDk.out.blk_ne HT.out (by decide)) _
  have hF0 : Fr (TsX s lb tb) B W (W.setCell ⟨tb, 3, none⟩ (.bool false)) := (Fr.refl _ _ _).sett hB3 _ _
  generalize W.setCell ⟨tb, 3, none⟩ (.bool false) = W1 at hD0 hT0 hS0 hL0 hK0 hF0 ⊢
  have v1 : W1.cell? ⟨tb, 1, none⟩ = some (.int .i64 b) := hT0.cell rfl
  have v2 : W1.cell? ⟨tb, 2, none⟩ = some (.int .i64 w) := hT0.cell rfl
  have HD0 := Lib.hid (hD0.on (Below.refl _ W1).drew)
  have HT0 := Lib.hid hT0
  have HS0 := Lib.hid hS0
  have HL0 := Lib.hid hL0
  have HK0 := Lib.hid hK0
  have HF0 := Lib.hid hF0
  clear hD0 hT0 hS0 hL0 hK0 hF0 t0 t1 t2 t3 g2 g3 s0
  refine wp_region_held_drew (S := fun W => W.cell? ⟨tb, 1, none⟩ = some (.int .i64 b) ∧ W.cell? ⟨tb, 2, none⟩ = some (.int .i64 w)) (by kernel_rfl) ⟨v1, v2⟩ (fun hS => ?_)
  iterate 16 (refine tkF 0 (v := ?_) ?_ ?_; rotate_left; · (intro W hSw; (try dsimp only at hSw); go_simp; try with_reducible rfl); try simp only [Act.put, List.setIfInBounds_toArray, List.set_cons_zero, List.set_cons_succ])
  refine rd 16 fun K1 hK1 => ?_
  go_simp
  go_at_call 94
  rw [IntWalk.i64_left]
  refine (dswap_any HD0.out HK0.out hn 1 (uw w) (uw (iw (w + b)))).mono ?_
  rintro e w1 ⟨he, ⟨vl1, va1, hd1⟩, hf1⟩
  rw [HW.out] at he
  subst he
  have hs1 := hf1.blk HS0.out rfl (by simp)
  have hl1 := hf1.blk HL0.out (lkT_mine _) (by simp)
  have ht1 := hf1.blk HT0.out rfl (by simp)
  have hk1 : Dsk w1 db L := hf1.blk HK0.out rfl (by simp)
  refine hK1.out _ _ ⟨ht1.cell rfl, ht1.cell rfl⟩ (fun _ => ?_)
  have v0' : w1.cell? ⟨tb, 0, none⟩ = some (.pointer (some ⟨s, 0, none⟩)) := ht1.cell rfl
  have v1' : w1.cell? ⟨tb, 1, none⟩ = some (.int .i64 b) := ht1.cell rfl
  have u2' : w1.cell? ⟨s, 2, none⟩ = some (.bool sh) := hs1.cell rfl
  have p2' := hs1.frozen 2
  have l1' := ht1.lt
  have l2' := hs1.lt
  have HD1 := Lib.hid hd1
  have HL1 := Lib.hid hl1
  have HF1 : Hid (Fr (TsX s lb tb) B W w1) := HF0.out.drew.trans hf1.fno
  have HS1 := Lib.hid hs1
  have HT1 := Lib.hid ht1
  have HK1 := Lib.hid hk1
  clear hd1 hl1 hf1 hs1 ht1 hk1
  iterate 1 (refine tkF 0 (v := ?_) ?_ ?_; rotate_left; · (intro W hSw; (try dsimp only at hSw); go_simp; try with_reducible rfl); try simp only [Act.put, List.setIfInBounds_toArray, List.set_cons_zero, List.set_cons_succ])
  refine wpAnyH_done (by kernel_rfl) ?_ _
  go_wp2_with fail
  go_ret
  exact ⟨rfl, ⟨_, _, HD1.out, HS1.out, HL1.out, HT1.out⟩, HF1.out⟩
set_option maxRecDepth 100000 in
set_option maxHeartbeats 1000000 in
theorem shrD {b w : Int} (hp : decide (0 < b) = false) (hs : (t.d.swap 1 (uw w) (uw (iw (w + b)))).1 = true) (ha : t.task = .shr b w true) (h : TsM W B L s lb tb vl va t) (hd : Dsk W db L) (hB1 : B ≤ s) (hB3 : B ≤ tb) (hn : t.d.log.length ≤ 100000) :
    Calls Try.prog 92 #[.pointer (some ⟨tb, 0, none⟩), .pointer (some ⟨db, 0, none⟩)] W (TsR B L s lb tb W t.step) := by
  obtain ⟨ov, p, l, al, sh, d⟩ := t
  dsimp only at ha hn hs
  subst ha
  have ht0 : Blk W tb 113 [.pointer (some ⟨s, 0, none⟩), .int .i64 b, .int .i64 w, .bool true] := h.tk
  have t0 : W.cell? ⟨tb, 0, none⟩ = some (.pointer (some ⟨s, 0, none⟩)) := ht0.cell rfl
  have t1 : W.cell? ⟨tb, 1, none⟩ = some (.int .i64 b) := ht0.cell rfl
  have t2 : W.cell? ⟨tb, 2, none⟩ = some (.int .i64 w) := ht0.cell rfl
  have t3 : W.cell? ⟨tb, 3, none⟩ = some (.bool true) := ht0.cell rfl
  have g2 := ht0.frozen 2
  have g3 := ht0.frozen 3
  have hs0 : Blk W s 101 (seL lb l.kd al sh) := h.se
  have s0 : W.cell? ⟨s, 2, none⟩ = some (.bool sh) := hs0.cell rfl
  have HD : Hid (DM W B L vl va d) := h.dm
  have HDk := Lib.hid hd
  have HL : Hid (LkB W lb l) := h.lk
  have HS := Lib.hid hs0
  have HT := Lib.hid ht0
  have N1 := Lib.hid h.ne1
  have N2 := Lib.hid h.ne2
  have N3 := Lib.hid h.ne3
  clear h hd hs0 ht0
  have e9 : Ts.step ⟨ov, .shr b w true, l, al, sh, d⟩ = ⟨true, .shr b w false, l, al, false, (d.swap 1 (uw w) (uw (iw (w + b)))).2⟩ := by unfold Ts.step; dsimp only; rw [hs, hp]; rfl
  rw [e9]
  clear e9
  have HW := Lib.hid hs
  clear hs
  go_enter Try.func92, Try.ntmps92
  go_upto_region 6 with fail
  have hD0 := HD.out.off HT.out rfl 3 (.bool false)
  have hT0 := HT.out.set_ 3 (.bool false)
  have hS0 := HS.out.far N2.out (p := ⟨tb, 3, none⟩) (.bool false)
  have hL0 := Blk.far HL.out N3.out (p := ⟨tb, 3, none⟩) (.bool false)
  have hK0 : Dsk (W.setCell ⟨tb, 3, none⟩ (.bool false)) db L := Blk.far HDk.out (HDk.out.blk_ne HT.out (by decide)) _
  have hF0 : Fr (TsX s lb tb) B W (W.setCell ⟨tb, 3, none⟩ (.bool false)) := (Fr.refl _ _ _).sett hB3 _ _
  generalize W.setCell ⟨tb, 3, none⟩ (.bool false) = W1 at hD0 hT0 hS0 hL0 hK0 hF0 ⊢
  have v1 : W1.cell? ⟨tb, 1, none⟩ = some (.int .i64 b) := hT0.cell rfl
  have v2 : W1.cell? ⟨tb, 2, none⟩ = some (.int .i64 w) := hT0.cell rfl
  have HD0 := Lib.hid (hD0.on (Below.refl _ W1).drew)
  have HT0 := Lib.hid hT0
  have HS0 := Lib.hid hS0
  have HL0 := Lib.hid hL0
  have HK0 := Lib.hid hK0
  have HF0 := Lib.hid hF0
  clear hD0 hT0 hS0 hL0 hK0 hF0 t0 t1 t2 t3 g2 g3 s0
  refine wp_region_held_drew (S := fun W => W.cell? ⟨tb, 1, none⟩ = some (.int .i64 b) ∧ W.cell? ⟨tb, 2, none⟩ = some (.int .i64 w)) (by kernel_rfl) ⟨v1, v2⟩ (fun hS => ?_)
  iterate 16 (refine tkF 0 (v := ?_) ?_ ?_; rotate_left; · (intro W hSw; (try dsimp only at hSw); go_simp; try with_reducible rfl); try simp only [Act.put, List.setIfInBounds_toArray, List.set_cons_zero, List.set_cons_succ])
  refine rd 16 fun K1 hK1 => ?_
  go_simp
  go_at_call 94
  rw [IntWalk.i64_left]
  refine (dswap_any HD0.out HK0.out hn 1 (uw w) (uw (iw (w + b)))).mono ?_
  rintro e w1 ⟨he, ⟨vl1, va1, hd1⟩, hf1⟩
  rw [HW.out] at he
  subst he
  have hs1 := hf1.blk HS0.out rfl (by simp)
  have hl1 := hf1.blk HL0.out (lkT_mine _) (by simp)
  have ht1 := hf1.blk HT0.out rfl (by simp)
  have hk1 : Dsk w1 db L := hf1.blk HK0.out rfl (by simp)
  refine hK1.out _ _ ⟨ht1.cell rfl, ht1.cell rfl⟩ (fun _ => ?_)
  have v0' : w1.cell? ⟨tb, 0, none⟩ = some (.pointer (some ⟨s, 0, none⟩)) := ht1.cell rfl
  have v1' : w1.cell? ⟨tb, 1, none⟩ = some (.int .i64 b) := ht1.cell rfl
  have u2' : w1.cell? ⟨s, 2, none⟩ = some (.bool sh) := hs1.cell rfl
  have p2' := hs1.frozen 2
  have l1' := ht1.lt
  have l2' := hs1.lt
  have HD1 := Lib.hid hd1
  have HL1 := Lib.hid hl1
  have HF1 : Hid (Fr (TsX s lb tb) B W w1) := HF0.out.drew.trans hf1.fno
  have HS1 := Lib.hid hs1
  have HT1 := Lib.hid ht1
  have HK1 := Lib.hid hk1
  clear hd1 hl1 hf1 hs1 ht1 hk1
  iterate 1 (refine tkF 0 (v := ?_) ?_ ?_; rotate_left; · (intro W hSw; (try dsimp only at hSw); go_simp; try with_reducible rfl); try simp only [Act.put, List.setIfInBounds_toArray, List.set_cons_zero, List.set_cons_succ])
  refine wpAnyH_done (by kernel_rfl) ?_ _
  have hp9 : ¬ 0 < b := by simpa using hp
  go_upto_region 10 with fail
  go_region
  all_goals (
    go_wp2_with fail
    go_ret
    exact ⟨rfl, ⟨_, _, (HD1.out.off HS1.out rfl 2 (.bool false)).on (Below.refl _ _).drew, HS1.out.set_ 2 (.bool false), HL1.out.far N1.out.symm _, HT1.out.far N2.out.symm _⟩, (HF1.out.sets hB1 2 (.bool false)).drew⟩)
set_option maxRecDepth 100000 in
set_option maxHeartbeats 1000000 in
theorem shrE {b w : Int} (hp : decide (0 < b) = true) (hs : (t.d.swap 1 (uw w) (uw (iw (w + b)))).1 = true) (ha : t.task = .shr b w true) (h : TsM W B L s lb tb vl va t) (hd : Dsk W db L) (hB1 : B ≤ s) (hB3 : B ≤ tb) (hn : t.d.log.length ≤ 100000) :
    Calls Try.prog 92 #[.pointer (some ⟨tb, 0, none⟩), .pointer (some ⟨db, 0, none⟩)] W (TsR B L s lb tb W t.step) := by
  obtain ⟨ov, p, l, al, sh, d⟩ := t
  dsimp only at ha hn hs
  subst ha
  have ht0 : Blk W tb 113 [.pointer (some ⟨s, 0, none⟩), .int .i64 b, .int .i64 w, .bool true] := h.tk
  have t0 : W.cell? ⟨tb, 0, none⟩ = some (.pointer (some ⟨s, 0, none⟩)) := ht0.cell rfl
  have t1 : W.cell? ⟨tb, 1, none⟩ = some (.int .i64 b) := ht0.cell rfl
  have t2 : W.cell? ⟨tb, 2, none⟩ = some (.int .i64 w) := ht0.cell rfl
  have t3 : W.cell? ⟨tb, 3, none⟩ = some (.bool true) := ht0.cell rfl
  have g2 := ht0.frozen 2
  have g3 := ht0.frozen 3
  have hs0 : Blk W s 101 (seL lb l.kd al sh) := h.se
  have s0 : W.cell? ⟨s, 2, none⟩ = some (.bool sh) := hs0.cell rfl
  have HD : Hid (DM W B L vl va d) := h.dm
  have HDk := Lib.hid hd
  have HL : Hid (LkB W lb l) := h.lk
  have HS := Lib.hid hs0
  have HT := Lib.hid ht0
  have N1 := Lib.hid h.ne1
  have N2 := Lib.hid h.ne2
  have N3 := Lib.hid h.ne3
  clear h hd hs0 ht0
  have e9 : Ts.step ⟨ov, .shr b w true, l, al, sh, d⟩ = ⟨true, .shr b w false, l, al, true, (d.swap 1 (uw w) (uw (iw (w + b)))).2.point⟩ := by unfold Ts.step; dsimp only; rw [hs, hp]; rfl
  rw [e9]
  clear e9
  have HW := Lib.hid hs
  clear hs
  go_enter Try.func92, Try.ntmps92
  go_upto_region 6 with fail
  have hD0 := HD.out.off HT.out rfl 3 (.bool false)
  have hT0 := HT.out.set_ 3 (.bool false)
  have hS0 := HS.out.far N2.out (p := ⟨tb, 3, none⟩) (.bool false)
  have hL0 := Blk.far HL.out N3.out (p := ⟨tb, 3, none⟩) (.bool false)
  have hK0 : Dsk (W.setCell ⟨tb, 3, none⟩ (.bool false)) db L := Blk.far HDk.out (HDk.out.blk_ne HT.out (by decide)) _
  have hF0 : Fr (TsX s lb tb) B W (W.setCell ⟨tb, 3, none⟩ (.bool false)) := (Fr.refl _ _ _).sett hB3 _ _
  generalize W.setCell ⟨tb, 3, none⟩ (.bool false) = W1 at hD0 hT0 hS0 hL0 hK0 hF0 ⊢
  have v1 : W1.cell? ⟨tb, 1, none⟩ = some (.int .i64 b) := hT0.cell rfl
  have v2 : W1.cell? ⟨tb, 2, none⟩ = some (.int .i64 w) := hT0.cell rfl
  have HD0 := Lib.hid (hD0.on (Below.refl _ W1).drew)
  have HT0 := Lib.hid hT0
  have HS0 := Lib.hid hS0
  have HL0 := Lib.hid hL0
  have HK0 := Lib.hid hK0
  have HF0 := Lib.hid hF0
  clear hD0 hT0 hS0 hL0 hK0 hF0 t0 t1 t2 t3 g2 g3 s0
  refine wp_region_held_drew (S := fun W => W.cell? ⟨tb, 1, none⟩ = some (.int .i64 b) ∧ W.cell? ⟨tb, 2, none⟩ = some (.int .i64 w)) (by kernel_rfl) ⟨v1, v2⟩ (fun hS => ?_)
  iterate 16 (refine tkF 0 (v := ?_) ?_ ?_; rotate_left; · (intro W hSw; (try dsimp only at hSw); go_simp; try with_reducible rfl); try simp only [Act.put, List.setIfInBounds_toArray, List.set_cons_zero, List.set_cons_succ])
  refine rd 16 fun K1 hK1 => ?_
  go_simp
  go_at_call 94
  rw [IntWalk.i64_left]
  refine (dswap_any HD0.out HK0.out hn 1 (uw w) (uw (iw (w + b)))).mono ?_
  rintro e w1 ⟨he, ⟨vl1, va1, hd1⟩, hf1⟩
  rw [HW.out] at he
  subst he
  have hs1 := hf1.blk HS0.out rfl (by simp)
  have hl1 := hf1.blk HL0.out (lkT_mine _) (by simp)
  have ht1 := hf1.blk HT0.out rfl (by simp)
  have hk1 : Dsk w1 db L := hf1.blk HK0.out rfl (by simp)
  refine hK1.out _ _ ⟨ht1.cell rfl, ht1.cell rfl⟩ (fun _ => ?_)
  have v0' : w1.cell? ⟨tb, 0, none⟩ = some (.pointer (some ⟨s, 0, none⟩)) := ht1.cell rfl
  have v1' : w1.cell? ⟨tb, 1, none⟩ = some (.int .i64 b) := ht1.cell rfl
  have u2' : w1.cell? ⟨s, 2, none⟩ = some (.bool sh) := hs1.cell rfl
  have p2' := hs1.frozen 2
  have l1' := ht1.lt
  have l2' := hs1.lt
  have HD1 := Lib.hid hd1
  have HL1 := Lib.hid hl1
  have HF1 : Hid (Fr (TsX s lb tb) B W w1) := HF0.out.drew.trans hf1.fno
  have HS1 := Lib.hid hs1
  have HT1 := Lib.hid ht1
  have HK1 := Lib.hid hk1
  clear hd1 hl1 hf1 hs1 ht1 hk1
  iterate 1 (refine tkF 0 (v := ?_) ?_ ?_; rotate_left; · (intro W hSw; (try dsimp only at hSw); go_simp; try with_reducible rfl); try simp only [Act.put, List.setIfInBounds_toArray, List.set_cons_zero, List.set_cons_succ])
  refine wpAnyH_done (by kernel_rfl) ?_ _
  have hp9 : 0 < b := by simpa using hp
  go_upto_region 9 with fail
  go_wp2_with fail
  refine (now_any HD1.out HK1.out).mono ?_
  rintro e w2 ⟨rfl, rfl⟩
  go_wp2_with fail
  refine (point_any HD1.out HK1.out _).mono ?_
  rintro e w3 ⟨rfl, ⟨vl2, va2, hd2⟩, hf2⟩
  have hs2 := hf2.blk HS1.out rfl (by simp)
  have hl2 := hf2.blk HL1.out (lkT_mine _) (by simp)
  have ht2 := hf2.blk HT1.out rfl (by simp)
  have v0'' : w3.cell? ⟨tb, 0, none⟩ = some (.pointer (some ⟨s, 0, none⟩)) := ht2.cell rfl
  have v1'' : w3.cell? ⟨tb, 1, none⟩ = some (.int .i64 b) := ht2.cell rfl
  have u2'' : w3.cell? ⟨s, 2, none⟩ = some (.bool sh) := hs2.cell rfl
  have p2'' := hs2.frozen 2
  have l1'' := ht2.lt
  have l2'' := hs2.lt
  have HD2 := Lib.hid hd2
  have HL2 := Lib.hid hl2
  have HS2 := Lib.hid hs2
  have HT2 := Lib.hid ht2
  have HF2 := Lib.hid (HF1.out.trans hf2.fno)
  clear hd2 hl2 hs2 ht2 hf2
  go_upto_region 10 with fail
  go_region
  all_goals (
    go_wp2_with fail
    go_ret
    exact ⟨rfl, ⟨_, _, (HD2.out.off HS2.out rfl 2 (.bool true)).on (Below.refl _ _).drew, HS2.out.set_ 2 (.bool true), HL2.out.far N1.out.symm _, HT2.out.far N2.out.symm _⟩, (HF2.out.sets hB1 2 (.bool true)).drew⟩)
end
end Go.Proofs.Ytjnmlgfkiebkgaa
