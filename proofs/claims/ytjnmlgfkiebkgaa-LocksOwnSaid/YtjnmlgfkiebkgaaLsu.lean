/-
  The tasks: sharing and touching.
-/
import Derived.Test.YtjnmlgfkiebkgaaLst
namespace Go.Proofs.Ytjnmlgfkiebkgaa
open Go.RowKit
set_option linter.unusedVariables false
set_option linter.unusedSimpArgs false

section
variable {W : World} {B db lb s tb : Nat} {L : DL} {vl va : Value} {t : Ts}
set_option maxRecDepth 100000 in
set_option maxHeartbeats 1000000 in
theorem releasingReady (ha : t.task = .rel) (h : TsM W B L s lb tb vl va t) :
    Calls Try.prog 89 #[.pointer (some ⟨tb, 0, none⟩), .pointer (some ⟨db, 0, none⟩)] W (TsR B L s lb tb W t.ready) := by
  obtain ⟨ov, p, l, al, sh, d⟩ := t
  dsimp only at ha
  subst ha
  have HS := Lib.hid h
  clear h
  go_enter Try.func89, Try.ntmps89
  go_wp2_with fail
  go_ret
  exact ⟨rfl, ⟨_, _, HS.out.dm, HS.out.se, HS.out.lk, HS.out.tk⟩, Fr.refl _ _ _⟩
set_option maxRecDepth 100000 in
set_option maxHeartbeats 1000000 in
theorem sharingReady (ha : ∃ b w k, t.task = .shr b w k) (h : TsM W B L s lb tb vl va t) :
    Calls Try.prog 91 #[.pointer (some ⟨tb, 0, none⟩), .pointer (some ⟨db, 0, none⟩)] W (TsR B L s lb tb W t.ready) := by
  obtain ⟨ov, p, l, al, sh, d⟩ := t
  dsimp only at ha
  obtain ⟨b, w, k, rfl⟩ := ha
  have HS := Lib.hid h
  clear h
  go_enter Try.func91, Try.ntmps91
  go_wp2_with fail
  go_ret
  exact ⟨rfl, ⟨_, _, HS.out.dm, HS.out.se, HS.out.lk, HS.out.tk⟩, Fr.refl _ _ _⟩
set_option maxRecDepth 100000 in
set_option maxHeartbeats 1000000 in
theorem touchingReady (ha : ∃ c k, t.task = .tch c k) (h : TsM W B L s lb tb vl va t) :
    Calls Try.prog 103 #[.pointer (some ⟨tb, 0, none⟩), .pointer (some ⟨db, 0, none⟩)] W (TsR B L s lb tb W t.ready) := by
  obtain ⟨ov, p, l, al, sh, d⟩ := t
  dsimp only at ha
  obtain ⟨c, k, rfl⟩ := ha
  have HS := Lib.hid h
  clear h
  go_enter Try.func103, Try.ntmps103
  go_wp2_with fail
  go_ret
  exact ⟨rfl, ⟨_, _, HS.out.dm, HS.out.se, HS.out.lk, HS.out.tk⟩, Fr.refl _ _ _⟩
set_option maxRecDepth 100000 in
set_option maxHeartbeats 1000000 in
theorem tchStep {c : Int} {k : Bool} (ha : t.task = .tch c k) (h : TsM W B L s lb tb vl va t) (hd : Dsk W db L) (hB3 : B ≤ tb) (hn : t.d.log.length ≤ 100000) :
    Calls Try.prog 104 #[.pointer (some ⟨tb, 0, none⟩), .pointer (some ⟨db, 0, none⟩)] W (TsR B L s lb tb W t.step) := by
  obtain ⟨ov, p, l, al, sh, d⟩ := t
  dsimp only at ha hn
  subst ha
  have ht0 : Blk W tb 116 [.int .u64 c, .bool k] := h.tk
  have t0 : W.cell? ⟨tb, 0, none⟩ = some (.int .u64 c) := ht0.cell rfl
  have t1 : W.cell? ⟨tb, 1, none⟩ = some (.bool k) := ht0.cell rfl
  have g0 := ht0.frozen 0
  have g1 := ht0.frozen 1
  have hs0 : Blk W s 101 (seL lb l.kd al sh) := h.se
  have HD : Hid (DM W B L vl va d) := h.dm
  have HDk := Lib.hid hd
  have HL : Hid (LkB W lb l) := h.lk
  have HS := Lib.hid hs0
  have HT := Lib.hid ht0
  have N1 := Lib.hid h.ne1
  have N2 := Lib.hid h.ne2
  have N3 := Lib.hid h.ne3
  clear h hd hs0 ht0
  cases k with
  | false =>
    go_enter Try.func104, Try.ntmps104
    go_wp2_with fail
    refine (dload_any HD.out HDk.out hn 0).mono ?_
    rintro e w1 ⟨rfl, ⟨vl1, va1, hd1⟩, hf1⟩
    have hs1 := hf1.blk HS.out rfl (by simp)
    have hl1 := hf1.blk HL.out (lkT_mine _) (by simp)
    have ht1 := hf1.blk HT.out rfl (by simp)
    have t0' : w1.cell? ⟨tb, 0, none⟩ = some (.int .u64 c) := ht1.cell rfl
    have t1' : w1.cell? ⟨tb, 1, none⟩ = some (.bool false) := ht1.cell rfl
    have g0' := ht1.frozen 0
    have g1' := ht1.frozen 1
    have HD1 := Lib.hid hd1
    have HL1 := Lib.hid hl1
    have HF1 := Lib.hid hf1
    have HS1 := Lib.hid hs1
    have HT1 := Lib.hid ht1
    clear hd1 hl1 hf1 hs1 ht1
    go_wp2_with fail
    go_ret
    exact ⟨rfl, ⟨_, _, (HD1.out.off HT1.out rfl 0 _).off (HT1.out.set_ 0 _) rfl 1 _, (HS1.out.far N2.out _).far N2.out _, (HL1.out.far N3.out _).far N3.out _, (HT1.out.set_ 0 (.int .u64 (d.load 0).1)).set_ 1 (.bool true)⟩, Fr.sett (Fr.sett HF1.out.fno hB3 _ _) hB3 _ _⟩
  | true =>
    go_enter Try.func104, Try.ntmps104
    go_wp2_with fail
    refine (dstore_any HD.out HDk.out hn 0 (uw (c + 1))).mono ?_
    rintro e w1 ⟨rfl, ⟨vl1, va1, hd1⟩, hf1⟩
    have hs1 := hf1.blk HS.out rfl (by simp)
    have hl1 := hf1.blk HL.out (lkT_mine _) (by simp)
    have ht1 := hf1.blk HT.out rfl (by simp)
    have hk1 : Dsk w1 db L := hf1.blk HDk.out rfl (by simp)
    have t0' : w1.cell? ⟨tb, 0, none⟩ = some (.int .u64 c) := ht1.cell rfl
    have HD1 := Lib.hid hd1
    have HL1 := Lib.hid hl1
    have HF1 := Lib.hid hf1
    have HS1 := Lib.hid hs1
    have HT1 := Lib.hid ht1
    have HK1 := Lib.hid hk1
    clear hd1 hl1 hf1 hs1 ht1 hk1
    go_wp2_with fail
    refine (answer_any HD1.out HK1.out 2 (iw c)).mono ?_
    rintro e w2 ⟨rfl, ⟨vl2, va2, hd2⟩, hf2⟩
    have HD2 := Lib.hid hd2
    have HF2 := Lib.hid hf2
    clear hd2 hf2
    go_wp2_with fail
    go_ret
    exact ⟨rfl, ⟨_, _, HD2.out, HF2.out.blk HS1.out rfl (by simp), HF2.out.blk HL1.out (lkT_mine _) (by simp), HF2.out.blk HT1.out rfl (by simp)⟩, (HF1.out.trans HF2.out).fno⟩
end
end Go.Proofs.Ytjnmlgfkiebkgaa
