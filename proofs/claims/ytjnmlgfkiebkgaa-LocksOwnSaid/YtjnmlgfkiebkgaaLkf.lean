/-
  The flag, alone and shared: flag.acquire, flag.release.
-/
import Derived.Test.YtjnmlgfkiebkgaaLst
import Derived.WalkMore
import Derived.ScopeJumps
import Derived.BigQuiet
import Derived.WalkSmall
namespace Go.Proofs.Ytjnmlgfkiebkgaa
open Go.RowKit
set_option linter.unusedVariables false
set_option linter.unusedSimpArgs false

section
variable {W : World} {lb : Nat} {l : Lk}
theorem lkb_zero (hl : LkB W lb l) : W.cell? ⟨lb, 0, none⟩ = some (.int .i64 l.me) ∧ W.cell? ⟨lb, 1, none⟩ = some (.int .i64 l.all) ∧ W.cell? ⟨lb, 2, none⟩ = some (.int .i64 l.at_) := ⟨Blk.cell hl rfl, Blk.cell hl rfl, Blk.cell hl rfl⟩
theorem iw_next (x : Int) : (iw (x + 1) == x) = false := by
  simp only [iw, wrap64]
  rw [beq_eq_false_iff_ne]
  omega
set_option maxRecDepth 100000 in
set_option maxHeartbeats 4000000 in
theorem others_any (l0 : W.cell? ⟨lb, 0, none⟩ = some (.int .i64 l.me)) (l1 : W.cell? ⟨lb, 1, none⟩ = some (.int .i64 l.all)) (k : Int) : Calls Try.prog 111 #[.pointer (some ⟨lb, 0, none⟩), .int .i64 k] W fun e w' => e = .returned (.int .i64 (l.oth k)) ∧ w' = W := by
  obtain ⟨kd, me, all, at_, x, y⟩ := l
  dsimp only at l0 l1
  cases h1 : iw (k + 1) == me with
  | false =>
    have e1 : Lk.oth ⟨kd, me, all, at_, x, y⟩ k = min (iw (k + 1)) all := by unfold Lk.oth; dsimp only; rw [h1]; rfl
    rw [e1]
    clear e1
    go_enter Try.func111, Try.ntmps111
    go_wp2_with fail
    go_step3
    go_wp2_with fail
    go_step3
    go_wp2_with fail
    all_goals (go_ret; refine ⟨congrArg (fun z => Ending.returned (.int .i64 z)) ?_, rfl⟩; dsimp only [iw] at *; omega)
  | true =>
    have e1 : Lk.oth ⟨kd, me, all, at_, x, y⟩ k = min (iw (iw (k + 1) + 1)) all := by unfold Lk.oth; dsimp only; rw [h1]; rfl
    have h2 : iw (k + 1) = me := by simpa using h1
    have h3 := iw_next me
    rw [e1]
    subst h2
    clear e1
    go_enter Try.func111, Try.ntmps111
    go_wp2_with fail
    refine wp_scope_jumps 0 (fun a' w' => w' = W ∧ ∃ (u5 u6 u7 u8 u9 u10 u11 u12 : Value), a' = { tmps := #[.pointer (some ⟨lb, 0, none⟩), .int .i64 (iw (k + 1)), undef, undef, .int .i64 0, u5, u6, u7, u8, u9, u10, u11, u12, undef, undef, undef, undef, undef, undef], defers := [] }) (fun _ _ => 0) rfl ?_ ?_
    · go_wp2_with fail
      go_step3
      go_wp2_with fail
      go_step3
      exact ⟨rfl, rfl, _, _, _, _, _, _, _, _, rfl⟩
    · rintro a' w' ⟨rfl, u5, u6, u7, u8, u9, u10, u11, u12, rfl⟩
      go_wp2_with fail
      all_goals (simp only [Exit.jump]; go_ret; refine ⟨congrArg (fun z => Ending.returned (.int .i64 z)) ?_, rfl⟩; dsimp only [iw] at *; omega)
theorem word_any (t : Int) (w : World) : Calls Try.prog 120 #[.int .i64 t] w fun e w' => e = .returned (.int .i64 (nword t)) ∧ w' = w := by
  go_enter Try.func120, Try.ntmps120
  go_wp2_with fail
  go_ret
  exact ⟨rfl, rfl⟩
end
end Go.Proofs.Ytjnmlgfkiebkgaa
namespace Go.Proofs.Ytjnmlgfkiebkgaa
open Go.RowKit
set_option linter.unusedVariables false
set_option linter.unusedSimpArgs false

section
variable {W : World} {B db lb : Nat} {L : DL} {vl va : Value} {d : Dk} {l : Lk}
set_option maxRecDepth 100000 in
set_option maxHeartbeats 4000000 in
theorem flag1_acq (hk : l.kd = 1) (h : DM W B L vl va d) (hd : Dsk W db L) (hl : LkB W lb l) (hB : B ≤ lb) (hn : d.log.length ≤ 100000) : Calls Try.prog 109 #[.pointer (some ⟨lb, 0, none⟩), .pointer (some ⟨db, 0, none⟩)] W (LkR B L lb W (l.acq d)) := by
  obtain ⟨kd, me, all, at_, x, y⟩ := l
  dsimp only at hk
  subst hk
  have hl0 : Blk W lb 144 [.int .i64 me, .int .i64 all, .int .i64 at_, .bool false] := hl
  have l0_0 : W.cell? ⟨lb, 0, none⟩ = some (.int .i64 me) := hl0.cell rfl
  have l1_0 : W.cell? ⟨lb, 1, none⟩ = some (.int .i64 all) := hl0.cell rfl
  have l2_0 : W.cell? ⟨lb, 2, none⟩ = some (.int .i64 at_) := hl0.cell rfl
  have l3_0 : W.cell? ⟨lb, 3, none⟩ = some (.bool false) := hl0.cell rfl
  have g2_0 := hl0.frozen 2
  have g3_0 := hl0.frozen 3
  have HD0 := Lib.hid h
  have HK0 := Lib.hid hd
  have HL0 := Lib.hid hl0
  have HF0 : Hid (Fr (fun b => b = lb) B W W) := Fr.refl _ _ _
  clear h hd hl hl0
  change Calls _ _ _ _ (LkR B L lb W (Lk.flagA ⟨1, me, all, at_, x, y⟩ d))
  have e1 : Lk.flagA ⟨1, me, all, at_, x, y⟩ d = bif (d.swap 1 0 1).1 then (true, ⟨1, me, all, at_, x, y⟩, (d.swap 1 0 1).2.point) else (false, ⟨1, me, all, at_, x, y⟩, (d.swap 1 0 1).2) := rfl
  rw [e1]
  clear e1
  go_enter Try.func109, Try.ntmps109
  go_wp2_with fail
  refine (dswap_any HD0.out HK0.out hn 1 0 1).mono ?_
  rintro e w1 ⟨rfl, ⟨vl1, va1, hd⟩, hf⟩
  have hl := hf.blk HL0.out rfl (by simp)
  have hk : Dsk w1 db L := hf.blk HK0.out rfl (by simp)
  have l0_1 : w1.cell? ⟨lb, 0, none⟩ = some (.int .i64 me) := hl.cell rfl
  have l1_1 : w1.cell? ⟨lb, 1, none⟩ = some (.int .i64 all) := hl.cell rfl
  have l2_1 : w1.cell? ⟨lb, 2, none⟩ = some (.int .i64 at_) := hl.cell rfl
  have l3_1 : w1.cell? ⟨lb, 3, none⟩ = some (.bool false) := hl.cell rfl
  have g2_1 := hl.frozen 2
  have g3_1 := hl.frozen 3
  have HD1 := Lib.hid hd
  have HF1 : Hid (Fr (fun b => b = lb) B W w1) := HF0.out.trans hf.no
  have HL1 := Lib.hid hl
  have HK1 := Lib.hid hk
  clear hd hf hl hk
  clear l0_0 l1_0 l2_0 l3_0 g2_0 g3_0
  cases hs : (d.swap 1 0 1).1 with
  | false =>
    have HS := Lib.hid hs
    clear hs
    go_wp2_with fail
    go_ret
    rw [HS.out]
    exact ⟨rfl, ⟨_, _, HD1.out⟩, HL1.out, HF1.out⟩
  | true =>
    have HS := Lib.hid hs
    clear hs
    go_wp2_with fail
    refine (ptnow_any HD1.out HK1.out).mono ?_
    rintro e w2 ⟨rfl, ⟨vl2, va2, hd⟩, hf⟩
    have hl := hf.blk HL1.out rfl (by simp)
    have hk : Dsk w2 db L := hf.blk HK1.out rfl (by simp)
    have l0_2 : w2.cell? ⟨lb, 0, none⟩ = some (.int .i64 me) := hl.cell rfl
    have l1_2 : w2.cell? ⟨lb, 1, none⟩ = some (.int .i64 all) := hl.cell rfl
    have l2_2 : w2.cell? ⟨lb, 2, none⟩ = some (.int .i64 at_) := hl.cell rfl
    have l3_2 : w2.cell? ⟨lb, 3, none⟩ = some (.bool false) := hl.cell rfl
    have g2_2 := hl.frozen 2
    have g3_2 := hl.frozen 3
    have HD2 := Lib.hid hd
    have HF2 : Hid (Fr (fun b => b = lb) B W w2) := HF1.out.trans hf.no
    have HL2 := Lib.hid hl
    have HK2 := Lib.hid hk
    clear hd hf hl hk
    clear l0_1 l1_1 l2_1 l3_1 g2_1 g3_1
    go_wp2_with fail
    go_ret
    rw [HS.out]
    exact ⟨rfl, ⟨_, _, HD2.out⟩, HL2.out, HF2.out⟩
set_option maxRecDepth 100000 in
set_option maxHeartbeats 4000000 in
theorem flag1_rel (hk : l.kd = 1) (h : DM W B L vl va d) (hd : Dsk W db L) (hl : LkB W lb l) (hB : B ≤ lb) (hn : d.log.length ≤ 100000) : Calls Try.prog 112 #[.pointer (some ⟨lb, 0, none⟩), .pointer (some ⟨db, 0, none⟩)] W (LkR B L lb W (l.rel d)) := by
  obtain ⟨kd, me, all, at_, x, y⟩ := l
  dsimp only at hk
  subst hk
  have hl0 : Blk W lb 144 [.int .i64 me, .int .i64 all, .int .i64 at_, .bool false] := hl
  have l0_0 : W.cell? ⟨lb, 0, none⟩ = some (.int .i64 me) := hl0.cell rfl
  have l1_0 : W.cell? ⟨lb, 1, none⟩ = some (.int .i64 all) := hl0.cell rfl
  have l2_0 : W.cell? ⟨lb, 2, none⟩ = some (.int .i64 at_) := hl0.cell rfl
  have l3_0 : W.cell? ⟨lb, 3, none⟩ = some (.bool false) := hl0.cell rfl
  have g2_0 := hl0.frozen 2
  have g3_0 := hl0.frozen 3
  have HD0 := Lib.hid h
  have HK0 := Lib.hid hd
  have HL0 := Lib.hid hl0
  have HF0 : Hid (Fr (fun b => b = lb) B W W) := Fr.refl _ _ _
  clear h hd hl hl0
  have e1 : Lk.rel ⟨1, me, all, at_, x, y⟩ d = (true, ⟨1, me, all, at_, x, y⟩, d.store 1 0) := rfl
  rw [e1]
  clear e1
  go_enter Try.func112, Try.ntmps112
  go_wp2_with fail
  refine (dstore_any HD0.out HK0.out hn 1 0).mono ?_
  rintro e w1 ⟨rfl, ⟨vl1, va1, hd⟩, hf⟩
  have hl := hf.blk HL0.out rfl (by simp)
  have hk : Dsk w1 db L := hf.blk HK0.out rfl (by simp)
  have l0_1 : w1.cell? ⟨lb, 0, none⟩ = some (.int .i64 me) := hl.cell rfl
  have l1_1 : w1.cell? ⟨lb, 1, none⟩ = some (.int .i64 all) := hl.cell rfl
  have l2_1 : w1.cell? ⟨lb, 2, none⟩ = some (.int .i64 at_) := hl.cell rfl
  have l3_1 : w1.cell? ⟨lb, 3, none⟩ = some (.bool false) := hl.cell rfl
  have g2_1 := hl.frozen 2
  have g3_1 := hl.frozen 3
  have HD1 := Lib.hid hd
  have HF1 : Hid (Fr (fun b => b = lb) B W w1) := HF0.out.trans hf.no
  have HL1 := Lib.hid hl
  have HK1 := Lib.hid hk
  clear hd hf hl hk
  clear l0_0 l1_0 l2_0 l3_0 g2_0 g3_0
  go_wp2_with fail
  go_ret
  exact ⟨rfl, ⟨_, _, HD1.out⟩, HL1.out, HF1.out⟩
set_option maxRecDepth 100000 in
set_option maxHeartbeats 4000000 in
theorem flag7_acq (hk : l.kd = 7) (h : DM W B L vl va d) (hd : Dsk W db L) (hl : LkB W lb l) (hB : B ≤ lb) (hn : d.log.length ≤ 100000) : Calls Try.prog 109 #[.pointer (some ⟨lb, 0, none⟩), .pointer (some ⟨db, 0, none⟩)] W (LkR B L lb W (l.acq d)) := by
  obtain ⟨kd, me, all, at_, x, y⟩ := l
  dsimp only at hk
  subst hk
  have hl0 : Blk W lb 144 [.int .i64 me, .int .i64 all, .int .i64 at_, .bool true] := hl
  have l0_0 : W.cell? ⟨lb, 0, none⟩ = some (.int .i64 me) := hl0.cell rfl
  have l1_0 : W.cell? ⟨lb, 1, none⟩ = some (.int .i64 all) := hl0.cell rfl
  have l2_0 : W.cell? ⟨lb, 2, none⟩ = some (.int .i64 at_) := hl0.cell rfl
  have l3_0 : W.cell? ⟨lb, 3, none⟩ = some (.bool true) := hl0.cell rfl
  have g2_0 := hl0.frozen 2
  have g3_0 := hl0.frozen 3
  have HD0 := Lib.hid h
  have HK0 := Lib.hid hd
  have HL0 := Lib.hid hl0
  have HF0 : Hid (Fr (fun b => b = lb) B W W) := Fr.refl _ _ _
  clear h hd hl hl0
  change Calls _ _ _ _ (LkR B L lb W (Lk.flagA ⟨7, me, all, at_, x, y⟩ d))
  have e1 : Lk.flagA ⟨7, me, all, at_, x, y⟩ d = bif (d.swap 1 0 18446744073709551615).1 then (true, ⟨7, me, all, at_, x, y⟩, (d.swap 1 0 18446744073709551615).2.point) else (false, ⟨7, me, all, at_, x, y⟩, (d.swap 1 0 18446744073709551615).2) := rfl
  rw [e1]
  clear e1
  go_enter Try.func109, Try.ntmps109
  go_wp2_with fail
  refine (dswap_any HD0.out HK0.out hn 1 0 18446744073709551615).mono ?_
  rintro e w1 ⟨rfl, ⟨vl1, va1, hd⟩, hf⟩
  have hl := hf.blk HL0.out rfl (by simp)
  have hk : Dsk w1 db L := hf.blk HK0.out rfl (by simp)
  have l0_1 : w1.cell? ⟨lb, 0, none⟩ = some (.int .i64 me) := hl.cell rfl
  have l1_1 : w1.cell? ⟨lb, 1, none⟩ = some (.int .i64 all) := hl.cell rfl
  have l2_1 : w1.cell? ⟨lb, 2, none⟩ = some (.int .i64 at_) := hl.cell rfl
  have l3_1 : w1.cell? ⟨lb, 3, none⟩ = some (.bool true) := hl.cell rfl
  have g2_1 := hl.frozen 2
  have g3_1 := hl.frozen 3
  have HD1 := Lib.hid hd
  have HF1 : Hid (Fr (fun b => b = lb) B W w1) := HF0.out.trans hf.no
  have HL1 := Lib.hid hl
  have HK1 := Lib.hid hk
  clear hd hf hl hk
  clear l0_0 l1_0 l2_0 l3_0 g2_0 g3_0
  cases hs : (d.swap 1 0 18446744073709551615).1 with
  | false =>
    have HS := Lib.hid hs
    clear hs
    go_wp2_with fail
    go_ret
    rw [HS.out]
    exact ⟨rfl, ⟨_, _, HD1.out⟩, HL1.out, HF1.out⟩
  | true =>
    have HS := Lib.hid hs
    clear hs
    go_wp2_with fail
    refine (ptnow_any HD1.out HK1.out).mono ?_
    rintro e w2 ⟨rfl, ⟨vl2, va2, hd⟩, hf⟩
    have hl := hf.blk HL1.out rfl (by simp)
    have hk : Dsk w2 db L := hf.blk HK1.out rfl (by simp)
    have l0_2 : w2.cell? ⟨lb, 0, none⟩ = some (.int .i64 me) := hl.cell rfl
    have l1_2 : w2.cell? ⟨lb, 1, none⟩ = some (.int .i64 all) := hl.cell rfl
    have l2_2 : w2.cell? ⟨lb, 2, none⟩ = some (.int .i64 at_) := hl.cell rfl
    have l3_2 : w2.cell? ⟨lb, 3, none⟩ = some (.bool true) := hl.cell rfl
    have g2_2 := hl.frozen 2
    have g3_2 := hl.frozen 3
    have HD2 := Lib.hid hd
    have HF2 : Hid (Fr (fun b => b = lb) B W w2) := HF1.out.trans hf.no
    have HL2 := Lib.hid hl
    have HK2 := Lib.hid hk
    clear hd hf hl hk
    clear l0_1 l1_1 l2_1 l3_1 g2_1 g3_1
    go_wp2_with fail
    go_ret
    rw [HS.out]
    exact ⟨rfl, ⟨_, _, HD2.out⟩, HL2.out, HF2.out⟩
set_option maxRecDepth 100000 in
set_option maxHeartbeats 4000000 in
theorem flag7_rel (hk : l.kd = 7) (h : DM W B L vl va d) (hd : Dsk W db L) (hl : LkB W lb l) (hB : B ≤ lb) (hn : d.log.length ≤ 100000) : Calls Try.prog 112 #[.pointer (some ⟨lb, 0, none⟩), .pointer (some ⟨db, 0, none⟩)] W (LkR B L lb W (l.rel d)) := by
  obtain ⟨kd, me, all, at_, x, y⟩ := l
  dsimp only at hk
  subst hk
  have hl0 : Blk W lb 144 [.int .i64 me, .int .i64 all, .int .i64 at_, .bool true] := hl
  have l0_0 : W.cell? ⟨lb, 0, none⟩ = some (.int .i64 me) := hl0.cell rfl
  have l1_0 : W.cell? ⟨lb, 1, none⟩ = some (.int .i64 all) := hl0.cell rfl
  have l2_0 : W.cell? ⟨lb, 2, none⟩ = some (.int .i64 at_) := hl0.cell rfl
  have l3_0 : W.cell? ⟨lb, 3, none⟩ = some (.bool true) := hl0.cell rfl
  have g2_0 := hl0.frozen 2
  have g3_0 := hl0.frozen 3
  have HD0 := Lib.hid h
  have HK0 := Lib.hid hd
  have HL0 := Lib.hid hl0
  have HF0 : Hid (Fr (fun b => b = lb) B W W) := Fr.refl _ _ _
  clear h hd hl hl0
  have e1 : Lk.rel ⟨7, me, all, at_, x, y⟩ d = (true, ⟨7, me, all, at_, x, y⟩, d.store 1 0) := rfl
  rw [e1]
  clear e1
  go_enter Try.func112, Try.ntmps112
  go_wp2_with fail
  refine (dstore_any HD0.out HK0.out hn 1 0).mono ?_
  rintro e w1 ⟨rfl, ⟨vl1, va1, hd⟩, hf⟩
  have hl := hf.blk HL0.out rfl (by simp)
  have hk : Dsk w1 db L := hf.blk HK0.out rfl (by simp)
  have l0_1 : w1.cell? ⟨lb, 0, none⟩ = some (.int .i64 me) := hl.cell rfl
  have l1_1 : w1.cell? ⟨lb, 1, none⟩ = some (.int .i64 all) := hl.cell rfl
  have l2_1 : w1.cell? ⟨lb, 2, none⟩ = some (.int .i64 at_) := hl.cell rfl
  have l3_1 : w1.cell? ⟨lb, 3, none⟩ = some (.bool true) := hl.cell rfl
  have g2_1 := hl.frozen 2
  have g3_1 := hl.frozen 3
  have HD1 := Lib.hid hd
  have HF1 : Hid (Fr (fun b => b = lb) B W w1) := HF0.out.trans hf.no
  have HL1 := Lib.hid hl
  have HK1 := Lib.hid hk
  clear hd hf hl hk
  clear l0_0 l1_0 l2_0 l3_0 g2_0 g3_0
  go_wp2_with fail
  go_ret
  exact ⟨rfl, ⟨_, _, HD1.out⟩, HL1.out, HF1.out⟩
end
end Go.Proofs.Ytjnmlgfkiebkgaa
