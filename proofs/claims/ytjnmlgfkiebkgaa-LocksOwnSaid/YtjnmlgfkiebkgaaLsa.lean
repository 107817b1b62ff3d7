/-
  The tasks of acquiring and releasing, of the other kinds of locks.
-/
import Derived.Test.YtjnmlgfkiebkgaaLms
import Derived.Test.YtjnmlgfkiebkgaaLkf
import Derived.Test.YtjnmlgfkiebkgaaLkq
import Derived.Test.YtjnmlgfkiebkgaaLkn
import Derived.Test.YtjnmlgfkiebkgaaLkl
import Derived.Test.YtjnmlgfkiebkgaaLkb
namespace Go.Proofs.Ytjnmlgfkiebkgaa
open Go.RowKit
set_option linter.unusedVariables false
set_option linter.unusedSimpArgs false

section
variable {W : World} {B db lb s tb : Nat} {L : DL} {vl va : Value} {t : Ts}
set_option maxRecDepth 100000 in
set_option maxHeartbeats 4000000 in
theorem acqStep_1 (hk : t.lk.kd = 1) (ha : t.task = .acq) (h : TsM W B L s lb tb vl va t) (hd : Dsk W db L) (hB1 : B ≤ s) (hB2 : B ≤ lb) (hn : t.d.log.length ≤ 100000) :
    Calls Try.prog 87 #[.pointer (some ⟨tb, 0, none⟩), .pointer (some ⟨db, 0, none⟩)] W (TsR B L s lb tb W t.step) := by
  obtain ⟨ov, p, l, al, sh, d⟩ := t
  dsimp only at hk ha hn
  subst ha
  have hs0 : Blk W s 101 [.iface 142 (.pointer (some ⟨lb, 0, none⟩)), .bool al, .bool sh] := by
    have := h.se
    dsimp only [seL] at this
    rw [hk] at this
    exact this
  have ht0 : Blk W tb 107 [.pointer (some ⟨s, 0, none⟩)] := h.tk
  have s0 : W.cell? ⟨s, 0, none⟩ = some (.iface 142 (.pointer (some ⟨lb, 0, none⟩))) := hs0.cell rfl
  have t0 : W.cell? ⟨tb, 0, none⟩ = some (.pointer (some ⟨s, 0, none⟩)) := ht0.cell rfl
  have HD : Hid (DM W B L vl va d) := h.dm
  have HDk := Lib.hid hd
  have HL : Hid (LkB W lb l) := h.lk
  have HS := Lib.hid hs0
  have HT := Lib.hid ht0
  have HK := Lib.hid hk
  have N1 := Lib.hid h.ne1
  have N3 := Lib.hid h.ne3
  clear h hd hs0 ht0 hk
  go_enter Try.func87, Try.ntmps87
  go_wp2_with fail
  refine (flag1_acq HK.out HD.out HDk.out HL.out hB2 hn).mono ?_
  rintro e w1 ⟨rfl, ⟨vl1, va1, hd1⟩, hl1, hf1⟩
  have hs1 := hf1.blk HS.out rfl N1.out
  have ht1 := hf1.blk HT.out rfl N3.out.symm
  have HD1 := Lib.hid hd1
  have HL1 := Lib.hid hl1
  have HF1 := Lib.hid hf1
  have HS1 := Lib.hid hs1
  have HT1 := Lib.hid ht1
  clear hd1 hl1 hf1 hs1 ht1
  go_wp2_with fail
  refine (over_any (l.acq d).1 HS1.out HT1.out).mono ?_
  rintro e w2 ⟨rfl, rfl⟩
  go_wp2_with fail
  go_ret
  refine ⟨rfl, ⟨_, _, HD1.out.off HS1.out rfl 1 _, ?_, HL1.out.far N1.out.symm _, HT1.out.far (HT1.out.blk_ne HS1.out (by decide)) _⟩, Fr.sets (HF1.out.mono (fun b e => Or.inr (Or.inl e))) hB1 _ _⟩
  have := HS1.out.set_ 1 (.bool (l.acq d).1)
  rw [show (Ts.step ⟨ov, .acq, l, al, sh, d⟩).lk.kd = 1 from (lk_kd_acq l d).trans HK.out]
  exact this
set_option maxRecDepth 100000 in
set_option maxHeartbeats 4000000 in
theorem acqReady_1 (hk : t.lk.kd = 1) (ha : t.task = .acq) (h : TsM W B L s lb tb vl va t) (hd : Dsk W db L) (hB1 : B ≤ s) (hB2 : B ≤ lb) (hn : t.d.log.length ≤ 100000) :
    Calls Try.prog 86 #[.pointer (some ⟨tb, 0, none⟩), .pointer (some ⟨db, 0, none⟩)] W (TsR B L s lb tb W t.ready) := by
  obtain ⟨ov, p, l, al, sh, d⟩ := t
  dsimp only at hk ha hn
  subst ha
  have hs0 : Blk W s 101 [.iface 142 (.pointer (some ⟨lb, 0, none⟩)), .bool al, .bool sh] := by
    have := h.se
    dsimp only [seL] at this
    rw [hk] at this
    exact this
  have ht0 : Blk W tb 107 [.pointer (some ⟨s, 0, none⟩)] := h.tk
  have s0 : W.cell? ⟨s, 0, none⟩ = some (.iface 142 (.pointer (some ⟨lb, 0, none⟩))) := hs0.cell rfl
  have t0 : W.cell? ⟨tb, 0, none⟩ = some (.pointer (some ⟨s, 0, none⟩)) := ht0.cell rfl
  have HD : Hid (DM W B L vl va d) := h.dm
  have HDk := Lib.hid hd
  have HL : Hid (LkB W lb l) := h.lk
  have HS := Lib.hid hs0
  have HT := Lib.hid ht0
  have HK := Lib.hid hk
  have N1 := Lib.hid h.ne1
  have N3 := Lib.hid h.ne3
  clear h hd hs0 ht0 hk
  go_enter Try.func86, Try.ntmps86
  go_wp2_with fail
  refine (place_beg (by simp [HK.out]) HD.out HL.out hB2 _).mono ?_
  rintro e w1 ⟨rfl, ⟨vl1, va1, hd1⟩, hl1, hf1⟩
  have hs1 := hf1.blk HS.out rfl N1.out
  have ht1 := hf1.blk HT.out rfl N3.out.symm
  have HD1 := Lib.hid hd1
  have HL1 := Lib.hid hl1
  have HF1 := Lib.hid hf1
  have HS1 := Lib.hid hs1
  have HT1 := Lib.hid ht1
  clear hd1 hl1 hf1 hs1 ht1
  go_wp2_with fail
  refine (over_any (l.beg d).1 HS1.out HT1.out).mono ?_
  rintro e w2 ⟨rfl, rfl⟩
  go_wp2_with fail
  go_ret
  refine ⟨rfl, ⟨_, _, HD1.out.off HS1.out rfl 1 _, ?_, HL1.out.far N1.out.symm _, HT1.out.far (HT1.out.blk_ne HS1.out (by decide)) _⟩, Fr.sets (HF1.out.mono (fun b e => Or.inr (Or.inl e))) hB1 _ _⟩
  have := HS1.out.set_ 1 (.bool (l.beg d).1)
  rw [show (Ts.ready ⟨ov, .acq, l, al, sh, d⟩).lk.kd = 1 from (lk_kd_beg l d).trans HK.out]
  exact this
set_option maxRecDepth 100000 in
set_option maxHeartbeats 4000000 in
theorem relStep_1 (hk : t.lk.kd = 1) (ha : t.task = .rel) (h : TsM W B L s lb tb vl va t) (hd : Dsk W db L) (hB1 : B ≤ s) (hB2 : B ≤ lb) (hn : t.d.log.length ≤ 100000) :
    Calls Try.prog 90 #[.pointer (some ⟨tb, 0, none⟩), .pointer (some ⟨db, 0, none⟩)] W (TsR B L s lb tb W t.step) := by
  obtain ⟨ov, p, l, al, sh, d⟩ := t
  dsimp only at hk ha hn
  subst ha
  have hs0 : Blk W s 101 [.iface 142 (.pointer (some ⟨lb, 0, none⟩)), .bool al, .bool sh] := by
    have := h.se
    dsimp only [seL] at this
    rw [hk] at this
    exact this
  have ht0 : Blk W tb 110 [.pointer (some ⟨s, 0, none⟩)] := h.tk
  have s0 : W.cell? ⟨s, 0, none⟩ = some (.iface 142 (.pointer (some ⟨lb, 0, none⟩))) := hs0.cell rfl
  have t0 : W.cell? ⟨tb, 0, none⟩ = some (.pointer (some ⟨s, 0, none⟩)) := ht0.cell rfl
  have HD : Hid (DM W B L vl va d) := h.dm
  have HDk := Lib.hid hd
  have HL : Hid (LkB W lb l) := h.lk
  have HS := Lib.hid hs0
  have HT := Lib.hid ht0
  have HK := Lib.hid hk
  have N1 := Lib.hid h.ne1
  have N3 := Lib.hid h.ne3
  clear h hd hs0 ht0 hk
  go_enter Try.func90, Try.ntmps90
  go_wp2_with fail
  refine (flag1_rel HK.out HD.out HDk.out HL.out hB2 hn).mono ?_
  rintro e w1 ⟨rfl, ⟨vl1, va1, hd1⟩, hl1, hf1⟩
  have hs1 := hf1.blk HS.out rfl N1.out
  have ht1 := hf1.blk HT.out rfl N3.out.symm
  have t0' : w1.cell? ⟨tb, 0, none⟩ = some (.pointer (some ⟨s, 0, none⟩)) := ht1.cell rfl
  have s1' : w1.cell? ⟨s, 1, none⟩ = some (.bool al) := hs1.cell rfl
  have f1' := hs1.frozen 1
  have HD1 := Lib.hid hd1
  have HL1 := Lib.hid hl1
  have HF1 := Lib.hid hf1
  have HS1 := Lib.hid hs1
  have HT1 := Lib.hid ht1
  clear hd1 hl1 hf1 hs1 ht1
  go_wp2_with fail
  go_ret
  refine ⟨rfl, ⟨_, _, HD1.out.off HS1.out rfl 1 _, ?_, HL1.out.far N1.out.symm _, HT1.out.far (HT1.out.blk_ne HS1.out (by decide)) _⟩, Fr.sets (HF1.out.mono (fun b e => Or.inr (Or.inl e))) hB1 _ _⟩
  have := HS1.out.set_ 1 (.bool (!(l.rel d).1))
  rw [show (Ts.step ⟨ov, .rel, l, al, sh, d⟩).lk.kd = 1 from (lk_kd_rel l d).trans HK.out]
  exact this
set_option maxRecDepth 100000 in
set_option maxHeartbeats 4000000 in
theorem acqStep_7 (hk : t.lk.kd = 7) (ha : t.task = .acq) (h : TsM W B L s lb tb vl va t) (hd : Dsk W db L) (hB1 : B ≤ s) (hB2 : B ≤ lb) (hn : t.d.log.length ≤ 100000) :
    Calls Try.prog 87 #[.pointer (some ⟨tb, 0, none⟩), .pointer (some ⟨db, 0, none⟩)] W (TsR B L s lb tb W t.step) := by
  obtain ⟨ov, p, l, al, sh, d⟩ := t
  dsimp only at hk ha hn
  subst ha
  have hs0 : Blk W s 101 [.iface 142 (.pointer (some ⟨lb, 0, none⟩)), .bool al, .bool sh] := by
    have := h.se
    dsimp only [seL] at this
    rw [hk] at this
    exact this
  have ht0 : Blk W tb 107 [.pointer (some ⟨s, 0, none⟩)] := h.tk
  have s0 : W.cell? ⟨s, 0, none⟩ = some (.iface 142 (.pointer (some ⟨lb, 0, none⟩))) := hs0.cell rfl
  have t0 : W.cell? ⟨tb, 0, none⟩ = some (.pointer (some ⟨s, 0, none⟩)) := ht0.cell rfl
  have HD : Hid (DM W B L vl va d) := h.dm
  have HDk := Lib.hid hd
  have HL : Hid (LkB W lb l) := h.lk
  have HS := Lib.hid hs0
  have HT := Lib.hid ht0
  have HK := Lib.hid hk
  have N1 := Lib.hid h.ne1
  have N3 := Lib.hid h.ne3
  clear h hd hs0 ht0 hk
  go_enter Try.func87, Try.ntmps87
  go_wp2_with fail
  refine (flag7_acq HK.out HD.out HDk.out HL.out hB2 hn).mono ?_
  rintro e w1 ⟨rfl, ⟨vl1, va1, hd1⟩, hl1, hf1⟩
  have hs1 := hf1.blk HS.out rfl N1.out
  have ht1 := hf1.blk HT.out rfl N3.out.symm
  have HD1 := Lib.hid hd1
  have HL1 := Lib.hid hl1
  have HF1 := Lib.hid hf1
  have HS1 := Lib.hid hs1
  have HT1 := Lib.hid ht1
  clear hd1 hl1 hf1 hs1 ht1
  go_wp2_with fail
  refine (over_any (l.acq d).1 HS1.out HT1.out).mono ?_
  rintro e w2 ⟨rfl, rfl⟩
  go_wp2_with fail
  go_ret
  refine ⟨rfl, ⟨_, _, HD1.out.off HS1.out rfl 1 _, ?_, HL1.out.far N1.out.symm _, HT1.out.far (HT1.out.blk_ne HS1.out (by decide)) _⟩, Fr.sets (HF1.out.mono (fun b e => Or.inr (Or.inl e))) hB1 _ _⟩
  have := HS1.out.set_ 1 (.bool (l.acq d).1)
  rw [show (Ts.step ⟨ov, .acq, l, al, sh, d⟩).lk.kd = 7 from (lk_kd_acq l d).trans HK.out]
  exact this
set_option maxRecDepth 100000 in
set_option maxHeartbeats 4000000 in
theorem acqReady_7 (hk : t.lk.kd = 7) (ha : t.task = .acq) (h : TsM W B L s lb tb vl va t) (hd : Dsk W db L) (hB1 : B ≤ s) (hB2 : B ≤ lb) (hn : t.d.log.length ≤ 100000) :
    Calls Try.prog 86 #[.pointer (some ⟨tb, 0, none⟩), .pointer (some ⟨db, 0, none⟩)] W (TsR B L s lb tb W t.ready) := by
  obtain ⟨ov, p, l, al, sh, d⟩ := t
  dsimp only at hk ha hn
  subst ha
  have hs0 : Blk W s 101 [.iface 142 (.pointer (some ⟨lb, 0, none⟩)), .bool al, .bool sh] := by
    have := h.se
    dsimp only [seL] at this
    rw [hk] at this
    exact this
  have ht0 : Blk W tb 107 [.pointer (some ⟨s, 0, none⟩)] := h.tk
  have s0 : W.cell? ⟨s, 0, none⟩ = some (.iface 142 (.pointer (some ⟨lb, 0, none⟩))) := hs0.cell rfl
  have t0 : W.cell? ⟨tb, 0, none⟩ = some (.pointer (some ⟨s, 0, none⟩)) := ht0.cell rfl
  have HD : Hid (DM W B L vl va d) := h.dm
  have HDk := Lib.hid hd
  have HL : Hid (LkB W lb l) := h.lk
  have HS := Lib.hid hs0
  have HT := Lib.hid ht0
  have HK := Lib.hid hk
  have N1 := Lib.hid h.ne1
  have N3 := Lib.hid h.ne3
  clear h hd hs0 ht0 hk
  go_enter Try.func86, Try.ntmps86
  go_wp2_with fail
  refine (place_beg (by simp [HK.out]) HD.out HL.out hB2 _).mono ?_
  rintro e w1 ⟨rfl, ⟨vl1, va1, hd1⟩, hl1, hf1⟩
  have hs1 := hf1.blk HS.out rfl N1.out
  have ht1 := hf1.blk HT.out rfl N3.out.symm
  have HD1 := Lib.hid hd1
  have HL1 := Lib.hid hl1
  have HF1 := Lib.hid hf1
  have HS1 := Lib.hid hs1
  have HT1 := Lib.hid ht1
  clear hd1 hl1 hf1 hs1 ht1
  go_wp2_with fail
  refine (over_any (l.beg d).1 HS1.out HT1.out).mono ?_
  rintro e w2 ⟨rfl, rfl⟩
  go_wp2_with fail
  go_ret
  refine ⟨rfl, ⟨_, _, HD1.out.off HS1.out rfl 1 _, ?_, HL1.out.far N1.out.symm _, HT1.out.far (HT1.out.blk_ne HS1.out (by decide)) _⟩, Fr.sets (HF1.out.mono (fun b e => Or.inr (Or.inl e))) hB1 _ _⟩
  have := HS1.out.set_ 1 (.bool (l.beg d).1)
  rw [show (Ts.ready ⟨ov, .acq, l, al, sh, d⟩).lk.kd = 7 from (lk_kd_beg l d).trans HK.out]
  exact this
set_option maxRecDepth 100000 in
set_option maxHeartbeats 4000000 in
theorem relStep_7 (hk : t.lk.kd = 7) (ha : t.task = .rel) (h : TsM W B L s lb tb vl va t) (hd : Dsk W db L) (hB1 : B ≤ s) (hB2 : B ≤ lb) (hn : t.d.log.length ≤ 100000) :
    Calls Try.prog 90 #[.pointer (some ⟨tb, 0, none⟩), .pointer (some ⟨db, 0, none⟩)] W (TsR B L s lb tb W t.step) := by
  obtain ⟨ov, p, l, al, sh, d⟩ := t
  dsimp only at hk ha hn
  subst ha
  have hs0 : Blk W s 101 [.iface 142 (.pointer (some ⟨lb, 0, none⟩)), .bool al, .bool sh] := by
    have := h.se
    dsimp only [seL] at this
    rw [hk] at this
    exact this
  have ht0 : Blk W tb 110 [.pointer (some ⟨s, 0, none⟩)] := h.tk
  have s0 : W.cell? ⟨s, 0, none⟩ = some (.iface 142 (.pointer (some ⟨lb, 0, none⟩))) := hs0.cell rfl
  have t0 : W.cell? ⟨tb, 0, none⟩ = some (.pointer (some ⟨s, 0, none⟩)) := ht0.cell rfl
  have HD : Hid (DM W B L vl va d) := h.dm
  have HDk := Lib.hid hd
  have HL : Hid (LkB W lb l) := h.lk
  have HS := Lib.hid hs0
  have HT := Lib.hid ht0
  have HK := Lib.hid hk
  have N1 := Lib.hid h.ne1
  have N3 := Lib.hid h.ne3
  clear h hd hs0 ht0 hk
  go_enter Try.func90, Try.ntmps90
  go_wp2_with fail
  refine (flag7_rel HK.out HD.out HDk.out HL.out hB2 hn).mono ?_
  rintro e w1 ⟨rfl, ⟨vl1, va1, hd1⟩, hl1, hf1⟩
  have hs1 := hf1.blk HS.out rfl N1.out
  have ht1 := hf1.blk HT.out rfl N3.out.symm
  have t0' : w1.cell? ⟨tb, 0, none⟩ = some (.pointer (some ⟨s, 0, none⟩)) := ht1.cell rfl
  have s1' : w1.cell? ⟨s, 1, none⟩ = some (.bool al) := hs1.cell rfl
  have f1' := hs1.frozen 1
  have HD1 := Lib.hid hd1
  have HL1 := Lib.hid hl1
  have HF1 := Lib.hid hf1
  have HS1 := Lib.hid hs1
  have HT1 := Lib.hid ht1
  clear hd1 hl1 hf1 hs1 ht1
  go_wp2_with fail
  go_ret
  refine ⟨rfl, ⟨_, _, HD1.out.off HS1.out rfl 1 _, ?_, HL1.out.far N1.out.symm _, HT1.out.far (HT1.out.blk_ne HS1.out (by decide)) _⟩, Fr.sets (HF1.out.mono (fun b e => Or.inr (Or.inl e))) hB1 _ _⟩
  have := HS1.out.set_ 1 (.bool (!(l.rel d).1))
  rw [show (Ts.step ⟨ov, .rel, l, al, sh, d⟩).lk.kd = 7 from (lk_kd_rel l d).trans HK.out]
  exact this
set_option maxRecDepth 100000 in
set_option maxHeartbeats 4000000 in
theorem acqStep_3 (hk : t.lk.kd = 3) (ha : t.task = .acq) (h : TsM W B L s lb tb vl va t) (hd : Dsk W db L) (hB1 : B ≤ s) (hB2 : B ≤ lb) (hn : t.d.log.length ≤ 100000) :
    Calls Try.prog 87 #[.pointer (some ⟨tb, 0, none⟩), .pointer (some ⟨db, 0, none⟩)] W (TsR B L s lb tb W t.step) := by
  obtain ⟨ov, p, l, al, sh, d⟩ := t
  dsimp only at hk ha hn
  subst ha
  have hs0 : Blk W s 101 [.iface 148 (.pointer (some ⟨lb, 0, none⟩)), .bool al, .bool sh] := by
    have := h.se
    dsimp only [seL] at this
    rw [hk] at this
    exact this
  have ht0 : Blk W tb 107 [.pointer (some ⟨s, 0, none⟩)] := h.tk
  have s0 : W.cell? ⟨s, 0, none⟩ = some (.iface 148 (.pointer (some ⟨lb, 0, none⟩))) := hs0.cell rfl
  have t0 : W.cell? ⟨tb, 0, none⟩ = some (.pointer (some ⟨s, 0, none⟩)) := ht0.cell rfl
  have HD : Hid (DM W B L vl va d) := h.dm
  have HDk := Lib.hid hd
  have HL : Hid (LkB W lb l) := h.lk
  have HS := Lib.hid hs0
  have HT := Lib.hid ht0
  have HK := Lib.hid hk
  have N1 := Lib.hid h.ne1
  have N3 := Lib.hid h.ne3
  clear h hd hs0 ht0 hk
  go_enter Try.func87, Try.ntmps87
  go_wp2_with fail
  refine (queue_acq HK.out HD.out HDk.out HL.out hB2 hn).mono ?_
  rintro e w1 ⟨rfl, ⟨vl1, va1, hd1⟩, hl1, hf1⟩
  have hs1 := hf1.blk HS.out rfl N1.out
  have ht1 := hf1.blk HT.out rfl N3.out.symm
  have HD1 := Lib.hid hd1
  have HL1 := Lib.hid hl1
  have HF1 := Lib.hid hf1
  have HS1 := Lib.hid hs1
  have HT1 := Lib.hid ht1
  clear hd1 hl1 hf1 hs1 ht1
  go_wp2_with fail
  refine (over_any (l.acq d).1 HS1.out HT1.out).mono ?_
  rintro e w2 ⟨rfl, rfl⟩
  go_wp2_with fail
  go_ret
  refine ⟨rfl, ⟨_, _, HD1.out.off HS1.out rfl 1 _, ?_, HL1.out.far N1.out.symm _, HT1.out.far (HT1.out.blk_ne HS1.out (by decide)) _⟩, Fr.sets (HF1.out.mono (fun b e => Or.inr (Or.inl e))) hB1 _ _⟩
  have := HS1.out.set_ 1 (.bool (l.acq d).1)
  rw [show (Ts.step ⟨ov, .acq, l, al, sh, d⟩).lk.kd = 3 from (lk_kd_acq l d).trans HK.out]
  exact this
set_option maxRecDepth 100000 in
set_option maxHeartbeats 4000000 in
theorem acqReady_3 (hk : t.lk.kd = 3) (ha : t.task = .acq) (h : TsM W B L s lb tb vl va t) (hd : Dsk W db L) (hB1 : B ≤ s) (hB2 : B ≤ lb) (hn : t.d.log.length ≤ 100000) :
    Calls Try.prog 86 #[.pointer (some ⟨tb, 0, none⟩), .pointer (some ⟨db, 0, none⟩)] W (TsR B L s lb tb W t.ready) := by
  obtain ⟨ov, p, l, al, sh, d⟩ := t
  dsimp only at hk ha hn
  subst ha
  have hs0 : Blk W s 101 [.iface 148 (.pointer (some ⟨lb, 0, none⟩)), .bool al, .bool sh] := by
    have := h.se
    dsimp only [seL] at this
    rw [hk] at this
    exact this
  have ht0 : Blk W tb 107 [.pointer (some ⟨s, 0, none⟩)] := h.tk
  have s0 : W.cell? ⟨s, 0, none⟩ = some (.iface 148 (.pointer (some ⟨lb, 0, none⟩))) := hs0.cell rfl
  have t0 : W.cell? ⟨tb, 0, none⟩ = some (.pointer (some ⟨s, 0, none⟩)) := ht0.cell rfl
  have HD : Hid (DM W B L vl va d) := h.dm
  have HDk := Lib.hid hd
  have HL : Hid (LkB W lb l) := h.lk
  have HS := Lib.hid hs0
  have HT := Lib.hid ht0
  have HK := Lib.hid hk
  have N1 := Lib.hid h.ne1
  have N3 := Lib.hid h.ne3
  clear h hd hs0 ht0 hk
  go_enter Try.func86, Try.ntmps86
  go_wp2_with fail
  refine (place_beg (by simp [HK.out]) HD.out HL.out hB2 _).mono ?_
  rintro e w1 ⟨rfl, ⟨vl1, va1, hd1⟩, hl1, hf1⟩
  have hs1 := hf1.blk HS.out rfl N1.out
  have ht1 := hf1.blk HT.out rfl N3.out.symm
  have HD1 := Lib.hid hd1
  have HL1 := Lib.hid hl1
  have HF1 := Lib.hid hf1
  have HS1 := Lib.hid hs1
  have HT1 := Lib.hid ht1
  clear hd1 hl1 hf1 hs1 ht1
  go_wp2_with fail
  refine (over_any (l.beg d).1 HS1.out HT1.out).mono ?_
  rintro e w2 ⟨rfl, rfl⟩
  go_wp2_with fail
  go_ret
  refine ⟨rfl, ⟨_, _, HD1.out.off HS1.out rfl 1 _, ?_, HL1.out.far N1.out.symm _, HT1.out.far (HT1.out.blk_ne HS1.out (by decide)) _⟩, Fr.sets (HF1.out.mono (fun b e => Or.inr (Or.inl e))) hB1 _ _⟩
  have := HS1.out.set_ 1 (.bool (l.beg d).1)
  rw [show (Ts.ready ⟨ov, .acq, l, al, sh, d⟩).lk.kd = 3 from (lk_kd_beg l d).trans HK.out]
  exact this
set_option maxRecDepth 100000 in
set_option maxHeartbeats 4000000 in
theorem relStep_3 (hk : t.lk.kd = 3) (ha : t.task = .rel) (h : TsM W B L s lb tb vl va t) (hd : Dsk W db L) (hB1 : B ≤ s) (hB2 : B ≤ lb) (hn : t.d.log.length ≤ 100000) :
    Calls Try.prog 90 #[.pointer (some ⟨tb, 0, none⟩), .pointer (some ⟨db, 0, none⟩)] W (TsR B L s lb tb W t.step) := by
  obtain ⟨ov, p, l, al, sh, d⟩ := t
  dsimp only at hk ha hn
  subst ha
  have hs0 : Blk W s 101 [.iface 148 (.pointer (some ⟨lb, 0, none⟩)), .bool al, .bool sh] := by
    have := h.se
    dsimp only [seL] at this
    rw [hk] at this
    exact this
  have ht0 : Blk W tb 110 [.pointer (some ⟨s, 0, none⟩)] := h.tk
  have s0 : W.cell? ⟨s, 0, none⟩ = some (.iface 148 (.pointer (some ⟨lb, 0, none⟩))) := hs0.cell rfl
  have t0 : W.cell? ⟨tb, 0, none⟩ = some (.pointer (some ⟨s, 0, none⟩)) := ht0.cell rfl
  have HD : Hid (DM W B L vl va d) := h.dm
  have HDk := Lib.hid hd
  have HL : Hid (LkB W lb l) := h.lk
  have HS := Lib.hid hs0
  have HT := Lib.hid ht0
  have HK := Lib.hid hk
  have N1 := Lib.hid h.ne1
  have N3 := Lib.hid h.ne3
  clear h hd hs0 ht0 hk
  go_enter Try.func90, Try.ntmps90
  go_wp2_with fail
  refine (queue_rel HK.out HD.out HDk.out HL.out hB2 hn).mono ?_
  rintro e w1 ⟨rfl, ⟨vl1, va1, hd1⟩, hl1, hf1⟩
  have hs1 := hf1.blk HS.out rfl N1.out
  have ht1 := hf1.blk HT.out rfl N3.out.symm
  have t0' : w1.cell? ⟨tb, 0, none⟩ = some (.pointer (some ⟨s, 0, none⟩)) := ht1.cell rfl
  have s1' : w1.cell? ⟨s, 1, none⟩ = some (.bool al) := hs1.cell rfl
  have f1' := hs1.frozen 1
  have HD1 := Lib.hid hd1
  have HL1 := Lib.hid hl1
  have HF1 := Lib.hid hf1
  have HS1 := Lib.hid hs1
  have HT1 := Lib.hid ht1
  clear hd1 hl1 hf1 hs1 ht1
  go_wp2_with fail
  go_ret
  refine ⟨rfl, ⟨_, _, HD1.out.off HS1.out rfl 1 _, ?_, HL1.out.far N1.out.symm _, HT1.out.far (HT1.out.blk_ne HS1.out (by decide)) _⟩, Fr.sets (HF1.out.mono (fun b e => Or.inr (Or.inl e))) hB1 _ _⟩
  have := HS1.out.set_ 1 (.bool (!(l.rel d).1))
  rw [show (Ts.step ⟨ov, .rel, l, al, sh, d⟩).lk.kd = 3 from (lk_kd_rel l d).trans HK.out]
  exact this
set_option maxRecDepth 100000 in
set_option maxHeartbeats 4000000 in
theorem acqStep_4 (hk : t.lk.kd = 4) (ha : t.task = .acq) (h : TsM W B L s lb tb vl va t) (hd : Dsk W db L) (hB1 : B ≤ s) (hB2 : B ≤ lb) (hn : t.d.log.length ≤ 100000) :
    Calls Try.prog 87 #[.pointer (some ⟨tb, 0, none⟩), .pointer (some ⟨db, 0, none⟩)] W (TsR B L s lb tb W t.step) := by
  obtain ⟨ov, p, l, al, sh, d⟩ := t
  dsimp only at hk ha hn
  subst ha
  have hs0 : Blk W s 101 [.iface 151 (.pointer (some ⟨lb, 0, none⟩)), .bool al, .bool sh] := by
    have := h.se
    dsimp only [seL] at this
    rw [hk] at this
    exact this
  have ht0 : Blk W tb 107 [.pointer (some ⟨s, 0, none⟩)] := h.tk
  have s0 : W.cell? ⟨s, 0, none⟩ = some (.iface 151 (.pointer (some ⟨lb, 0, none⟩))) := hs0.cell rfl
  have t0 : W.cell? ⟨tb, 0, none⟩ = some (.pointer (some ⟨s, 0, none⟩)) := ht0.cell rfl
  have HD : Hid (DM W B L vl va d) := h.dm
  have HDk := Lib.hid hd
  have HL : Hid (LkB W lb l) := h.lk
  have HS := Lib.hid hs0
  have HT := Lib.hid ht0
  have HK := Lib.hid hk
  have N1 := Lib.hid h.ne1
  have N3 := Lib.hid h.ne3
  clear h hd hs0 ht0 hk
  go_enter Try.func87, Try.ntmps87
  go_wp2_with fail
  refine (node_acq HK.out HD.out HDk.out HL.out hB2 hn).mono ?_
  rintro e w1 ⟨rfl, ⟨vl1, va1, hd1⟩, hl1, hf1⟩
  have hs1 := hf1.blk HS.out rfl N1.out
  have ht1 := hf1.blk HT.out rfl N3.out.symm
  have HD1 := Lib.hid hd1
  have HL1 := Lib.hid hl1
  have HF1 := Lib.hid hf1
  have HS1 := Lib.hid hs1
  have HT1 := Lib.hid ht1
  clear hd1 hl1 hf1 hs1 ht1
  go_wp2_with fail
  refine (over_any (l.acq d).1 HS1.out HT1.out).mono ?_
  rintro e w2 ⟨rfl, rfl⟩
  go_wp2_with fail
  go_ret
  refine ⟨rfl, ⟨_, _, HD1.out.off HS1.out rfl 1 _, ?_, HL1.out.far N1.out.symm _, HT1.out.far (HT1.out.blk_ne HS1.out (by decide)) _⟩, Fr.sets (HF1.out.mono (fun b e => Or.inr (Or.inl e))) hB1 _ _⟩
  have := HS1.out.set_ 1 (.bool (l.acq d).1)
  rw [show (Ts.step ⟨ov, .acq, l, al, sh, d⟩).lk.kd = 4 from (lk_kd_acq l d).trans HK.out]
  exact this
set_option maxRecDepth 100000 in
set_option maxHeartbeats 4000000 in
theorem acqReady_4 (hk : t.lk.kd = 4) (ha : t.task = .acq) (h : TsM W B L s lb tb vl va t) (hd : Dsk W db L) (hB1 : B ≤ s) (hB2 : B ≤ lb) (hn : t.d.log.length ≤ 100000) :
    Calls Try.prog 86 #[.pointer (some ⟨tb, 0, none⟩), .pointer (some ⟨db, 0, none⟩)] W (TsR B L s lb tb W t.ready) := by
  obtain ⟨ov, p, l, al, sh, d⟩ := t
  dsimp only at hk ha hn
  subst ha
  have hs0 : Blk W s 101 [.iface 151 (.pointer (some ⟨lb, 0, none⟩)), .bool al, .bool sh] := by
    have := h.se
    dsimp only [seL] at this
    rw [hk] at this
    exact this
  have ht0 : Blk W tb 107 [.pointer (some ⟨s, 0, none⟩)] := h.tk
  have s0 : W.cell? ⟨s, 0, none⟩ = some (.iface 151 (.pointer (some ⟨lb, 0, none⟩))) := hs0.cell rfl
  have t0 : W.cell? ⟨tb, 0, none⟩ = some (.pointer (some ⟨s, 0, none⟩)) := ht0.cell rfl
  have HD : Hid (DM W B L vl va d) := h.dm
  have HDk := Lib.hid hd
  have HL : Hid (LkB W lb l) := h.lk
  have HS := Lib.hid hs0
  have HT := Lib.hid ht0
  have HK := Lib.hid hk
  have N1 := Lib.hid h.ne1
  have N3 := Lib.hid h.ne3
  clear h hd hs0 ht0 hk
  go_enter Try.func86, Try.ntmps86
  go_wp2_with fail
  refine (place_beg (by simp [HK.out]) HD.out HL.out hB2 _).mono ?_
  rintro e w1 ⟨rfl, ⟨vl1, va1, hd1⟩, hl1, hf1⟩
  have hs1 := hf1.blk HS.out rfl N1.out
  have ht1 := hf1.blk HT.out rfl N3.out.symm
  have HD1 := Lib.hid hd1
  have HL1 := Lib.hid hl1
  have HF1 := Lib.hid hf1
  have HS1 := Lib.hid hs1
  have HT1 := Lib.hid ht1
  clear hd1 hl1 hf1 hs1 ht1
  go_wp2_with fail
  refine (over_any (l.beg d).1 HS1.out HT1.out).mono ?_
  rintro e w2 ⟨rfl, rfl⟩
  go_wp2_with fail
  go_ret
  refine ⟨rfl, ⟨_, _, HD1.out.off HS1.out rfl 1 _, ?_, HL1.out.far N1.out.symm _, HT1.out.far (HT1.out.blk_ne HS1.out (by decide)) _⟩, Fr.sets (HF1.out.mono (fun b e => Or.inr (Or.inl e))) hB1 _ _⟩
  have := HS1.out.set_ 1 (.bool (l.beg d).1)
  rw [show (Ts.ready ⟨ov, .acq, l, al, sh, d⟩).lk.kd = 4 from (lk_kd_beg l d).trans HK.out]
  exact this
set_option maxRecDepth 100000 in
set_option maxHeartbeats 4000000 in
theorem relStep_4 (hk : t.lk.kd = 4) (ha : t.task = .rel) (h : TsM W B L s lb tb vl va t) (hd : Dsk W db L) (hB1 : B ≤ s) (hB2 : B ≤ lb) (hn : t.d.log.length ≤ 100000) :
    Calls Try.prog 90 #[.pointer (some ⟨tb, 0, none⟩), .pointer (some ⟨db, 0, none⟩)] W (TsR B L s lb tb W t.step) := by
  obtain ⟨ov, p, l, al, sh, d⟩ := t
  dsimp only at hk ha hn
  subst ha
  have hs0 : Blk W s 101 [.iface 151 (.pointer (some ⟨lb, 0, none⟩)), .bool al, .bool sh] := by
    have := h.se
    dsimp only [seL] at this
    rw [hk] at this
    exact this
  have ht0 : Blk W tb 110 [.pointer (some ⟨s, 0, none⟩)] := h.tk
  have s0 : W.cell? ⟨s, 0, none⟩ = some (.iface 151 (.pointer (some ⟨lb, 0, none⟩))) := hs0.cell rfl
  have t0 : W.cell? ⟨tb, 0, none⟩ = some (.pointer (some ⟨s, 0, none⟩)) := ht0.cell rfl
  have HD : Hid (DM W B L vl va d) := h.dm
  have HDk := Lib.hid hd
  have HL : Hid (LkB W lb l) := h.lk
  have HS := Lib.hid hs0
  have HT := Lib.hid ht0
  have HK := Lib.hid hk
  have N1 := Lib.hid h.ne1
  have N3 := Lib.hid h.ne3
  clear h hd hs0 ht0 hk
  go_enter Try.func90, Try.ntmps90
  go_wp2_with fail
  refine (node_rel HK.out HD.out HDk.out HL.out hB2 hn).mono ?_
  rintro e w1 ⟨rfl, ⟨vl1, va1, hd1⟩, hl1, hf1⟩
  have hs1 := hf1.blk HS.out rfl N1.out
  have ht1 := hf1.blk HT.out rfl N3.out.symm
  have t0' : w1.cell? ⟨tb, 0, none⟩ = some (.pointer (some ⟨s, 0, none⟩)) := ht1.cell rfl
  have s1' : w1.cell? ⟨s, 1, none⟩ = some (.bool al) := hs1.cell rfl
  have f1' := hs1.frozen 1
  have HD1 := Lib.hid hd1
  have HL1 := Lib.hid hl1
  have HF1 := Lib.hid hf1
  have HS1 := Lib.hid hs1
  have HT1 := Lib.hid ht1
  clear hd1 hl1 hf1 hs1 ht1
  go_wp2_with fail
  go_ret
  refine ⟨rfl, ⟨_, _, HD1.out.off HS1.out rfl 1 _, ?_, HL1.out.far N1.out.symm _, HT1.out.far (HT1.out.blk_ne HS1.out (by decide)) _⟩, Fr.sets (HF1.out.mono (fun b e => Or.inr (Or.inl e))) hB1 _ _⟩
  have := HS1.out.set_ 1 (.bool (!(l.rel d).1))
  rw [show (Ts.step ⟨ov, .rel, l, al, sh, d⟩).lk.kd = 4 from (lk_kd_rel l d).trans HK.out]
  exact this
set_option maxRecDepth 100000 in
set_option maxHeartbeats 4000000 in
theorem acqStep_5 (hk : t.lk.kd = 5) (ha : t.task = .acq) (h : TsM W B L s lb tb vl va t) (hd : Dsk W db L) (hB1 : B ≤ s) (hB2 : B ≤ lb) (hn : t.d.log.length ≤ 100000) :
    Calls Try.prog 87 #[.pointer (some ⟨tb, 0, none⟩), .pointer (some ⟨db, 0, none⟩)] W (TsR B L s lb tb W t.step) := by
  obtain ⟨ov, p, l, al, sh, d⟩ := t
  dsimp only at hk ha hn
  subst ha
  have hs0 : Blk W s 101 [.iface 154 (.pointer (some ⟨lb, 0, none⟩)), .bool al, .bool sh] := by
    have := h.se
    dsimp only [seL] at this
    rw [hk] at this
    exact this
  have ht0 : Blk W tb 107 [.pointer (some ⟨s, 0, none⟩)] := h.tk
  have s0 : W.cell? ⟨s, 0, none⟩ = some (.iface 154 (.pointer (some ⟨lb, 0, none⟩))) := hs0.cell rfl
  have t0 : W.cell? ⟨tb, 0, none⟩ = some (.pointer (some ⟨s, 0, none⟩)) := ht0.cell rfl
  have HD : Hid (DM W B L vl va d) := h.dm
  have HDk := Lib.hid hd
  have HL : Hid (LkB W lb l) := h.lk
  have HS := Lib.hid hs0
  have HT := Lib.hid ht0
  have HK := Lib.hid hk
  have N1 := Lib.hid h.ne1
  have N3 := Lib.hid h.ne3
  clear h hd hs0 ht0 hk
  go_enter Try.func87, Try.ntmps87
  go_wp2_with fail
  refine (filt_acq HK.out HD.out HDk.out HL.out hB2 hn).mono ?_
  rintro e w1 ⟨rfl, ⟨vl1, va1, hd1⟩, hl1, hf1⟩
  have hs1 := hf1.blk HS.out rfl N1.out
  have ht1 := hf1.blk HT.out rfl N3.out.symm
  have HD1 := Lib.hid hd1
  have HL1 := Lib.hid hl1
  have HF1 := Lib.hid hf1
  have HS1 := Lib.hid hs1
  have HT1 := Lib.hid ht1
  clear hd1 hl1 hf1 hs1 ht1
  go_wp2_with fail
  refine (over_any (l.acq d).1 HS1.out HT1.out).mono ?_
  rintro e w2 ⟨rfl, rfl⟩
  go_wp2_with fail
  go_ret
  refine ⟨rfl, ⟨_, _, HD1.out.off HS1.out rfl 1 _, ?_, HL1.out.far N1.out.symm _, HT1.out.far (HT1.out.blk_ne HS1.out (by decide)) _⟩, Fr.sets (HF1.out.mono (fun b e => Or.inr (Or.inl e))) hB1 _ _⟩
  have := HS1.out.set_ 1 (.bool (l.acq d).1)
  rw [show (Ts.step ⟨ov, .acq, l, al, sh, d⟩).lk.kd = 5 from (lk_kd_acq l d).trans HK.out]
  exact this
set_option maxRecDepth 100000 in
set_option maxHeartbeats 4000000 in
theorem acqReady_5 (hk : t.lk.kd = 5) (ha : t.task = .acq) (h : TsM W B L s lb tb vl va t) (hd : Dsk W db L) (hB1 : B ≤ s) (hB2 : B ≤ lb) (hn : t.d.log.length ≤ 100000) :
    Calls Try.prog 86 #[.pointer (some ⟨tb, 0, none⟩), .pointer (some ⟨db, 0, none⟩)] W (TsR B L s lb tb W t.ready) := by
  obtain ⟨ov, p, l, al, sh, d⟩ := t
  dsimp only at hk ha hn
  subst ha
  have hs0 : Blk W s 101 [.iface 154 (.pointer (some ⟨lb, 0, none⟩)), .bool al, .bool sh] := by
    have := h.se
    dsimp only [seL] at this
    rw [hk] at this
    exact this
  have ht0 : Blk W tb 107 [.pointer (some ⟨s, 0, none⟩)] := h.tk
  have s0 : W.cell? ⟨s, 0, none⟩ = some (.iface 154 (.pointer (some ⟨lb, 0, none⟩))) := hs0.cell rfl
  have t0 : W.cell? ⟨tb, 0, none⟩ = some (.pointer (some ⟨s, 0, none⟩)) := ht0.cell rfl
  have HD : Hid (DM W B L vl va d) := h.dm
  have HDk := Lib.hid hd
  have HL : Hid (LkB W lb l) := h.lk
  have HS := Lib.hid hs0
  have HT := Lib.hid ht0
  have HK := Lib.hid hk
  have N1 := Lib.hid h.ne1
  have N3 := Lib.hid h.ne3
  clear h hd hs0 ht0 hk
  go_enter Try.func86, Try.ntmps86
  go_wp2_with fail
  refine (filt_beg HK.out HD.out HDk.out HL.out hB2 hn).mono ?_
  rintro e w1 ⟨rfl, ⟨vl1, va1, hd1⟩, hl1, hf1⟩
  have hs1 := hf1.blk HS.out rfl N1.out
  have ht1 := hf1.blk HT.out rfl N3.out.symm
  have HD1 := Lib.hid hd1
  have HL1 := Lib.hid hl1
  have HF1 := Lib.hid hf1
  have HS1 := Lib.hid hs1
  have HT1 := Lib.hid ht1
  clear hd1 hl1 hf1 hs1 ht1
  go_wp2_with fail
  refine (over_any (l.beg d).1 HS1.out HT1.out).mono ?_
  rintro e w2 ⟨rfl, rfl⟩
  go_wp2_with fail
  go_ret
  refine ⟨rfl, ⟨_, _, HD1.out.off HS1.out rfl 1 _, ?_, HL1.out.far N1.out.symm _, HT1.out.far (HT1.out.blk_ne HS1.out (by decide)) _⟩, Fr.sets (HF1.out.mono (fun b e => Or.inr (Or.inl e))) hB1 _ _⟩
  have := HS1.out.set_ 1 (.bool (l.beg d).1)
  rw [show (Ts.ready ⟨ov, .acq, l, al, sh, d⟩).lk.kd = 5 from (lk_kd_beg l d).trans HK.out]
  exact this
set_option maxRecDepth 100000 in
set_option maxHeartbeats 4000000 in
theorem relStep_5 (hk : t.lk.kd = 5) (ha : t.task = .rel) (h : TsM W B L s lb tb vl va t) (hd : Dsk W db L) (hB1 : B ≤ s) (hB2 : B ≤ lb) (hn : t.d.log.length ≤ 100000) :
    Calls Try.prog 90 #[.pointer (some ⟨tb, 0, none⟩), .pointer (some ⟨db, 0, none⟩)] W (TsR B L s lb tb W t.step) := by
  obtain ⟨ov, p, l, al, sh, d⟩ := t
  dsimp only at hk ha hn
  subst ha
  have hs0 : Blk W s 101 [.iface 154 (.pointer (some ⟨lb, 0, none⟩)), .bool al, .bool sh] := by
    have := h.se
    dsimp only [seL] at this
    rw [hk] at this
    exact this
  have ht0 : Blk W tb 110 [.pointer (some ⟨s, 0, none⟩)] := h.tk
  have s0 : W.cell? ⟨s, 0, none⟩ = some (.iface 154 (.pointer (some ⟨lb, 0, none⟩))) := hs0.cell rfl
  have t0 : W.cell? ⟨tb, 0, none⟩ = some (.pointer (some ⟨s, 0, none⟩)) := ht0.cell rfl
  have HD : Hid (DM W B L vl va d) := h.dm
  have HDk := Lib.hid hd
  have HL : Hid (LkB W lb l) := h.lk
  have HS := Lib.hid hs0
  have HT := Lib.hid ht0
  have HK := Lib.hid hk
  have N1 := Lib.hid h.ne1
  have N3 := Lib.hid h.ne3
  clear h hd hs0 ht0 hk
  go_enter Try.func90, Try.ntmps90
  go_wp2_with fail
  refine (filt_rel HK.out HD.out HDk.out HL.out hB2 hn).mono ?_
  rintro e w1 ⟨rfl, ⟨vl1, va1, hd1⟩, hl1, hf1⟩
  have hs1 := hf1.blk HS.out rfl N1.out
  have ht1 := hf1.blk HT.out rfl N3.out.symm
  have t0' : w1.cell? ⟨tb, 0, none⟩ = some (.pointer (some ⟨s, 0, none⟩)) := ht1.cell rfl
  have s1' : w1.cell? ⟨s, 1, none⟩ = some (.bool al) := hs1.cell rfl
  have f1' := hs1.frozen 1
  have HD1 := Lib.hid hd1
  have HL1 := Lib.hid hl1
  have HF1 := Lib.hid hf1
  have HS1 := Lib.hid hs1
  have HT1 := Lib.hid ht1
  clear hd1 hl1 hf1 hs1 ht1
  go_wp2_with fail
  go_ret
  refine ⟨rfl, ⟨_, _, HD1.out.off HS1.out rfl 1 _, ?_, HL1.out.far N1.out.symm _, HT1.out.far (HT1.out.blk_ne HS1.out (by decide)) _⟩, Fr.sets (HF1.out.mono (fun b e => Or.inr (Or.inl e))) hB1 _ _⟩
  have := HS1.out.set_ 1 (.bool (!(l.rel d).1))
  rw [show (Ts.step ⟨ov, .rel, l, al, sh, d⟩).lk.kd = 5 from (lk_kd_rel l d).trans HK.out]
  exact this
set_option maxRecDepth 100000 in
set_option maxHeartbeats 4000000 in
theorem acqStep_6 (hk : t.lk.kd = 6) (ha : t.task = .acq) (h : TsM W B L s lb tb vl va t) (hd : Dsk W db L) (hB1 : B ≤ s) (hB2 : B ≤ lb) (hn : t.d.log.length ≤ 100000) :
    Calls Try.prog 87 #[.pointer (some ⟨tb, 0, none⟩), .pointer (some ⟨db, 0, none⟩)] W (TsR B L s lb tb W t.step) := by
  obtain ⟨ov, p, l, al, sh, d⟩ := t
  dsimp only at hk ha hn
  subst ha
  have hs0 : Blk W s 101 [.iface 157 (.pointer (some ⟨lb, 0, none⟩)), .bool al, .bool sh] := by
    have := h.se
    dsimp only [seL] at this
    rw [hk] at this
    exact this
  have ht0 : Blk W tb 107 [.pointer (some ⟨s, 0, none⟩)] := h.tk
  have s0 : W.cell? ⟨s, 0, none⟩ = some (.iface 157 (.pointer (some ⟨lb, 0, none⟩))) := hs0.cell rfl
  have t0 : W.cell? ⟨tb, 0, none⟩ = some (.pointer (some ⟨s, 0, none⟩)) := ht0.cell rfl
  have HD : Hid (DM W B L vl va d) := h.dm
  have HDk := Lib.hid hd
  have HL : Hid (LkB W lb l) := h.lk
  have HS := Lib.hid hs0
  have HT := Lib.hid ht0
  have HK := Lib.hid hk
  have N1 := Lib.hid h.ne1
  have N3 := Lib.hid h.ne3
  clear h hd hs0 ht0 hk
  go_enter Try.func87, Try.ntmps87
  go_wp2_with fail
  refine (bake_acq HK.out HD.out HDk.out HL.out hB2 hn).mono ?_
  rintro e w1 ⟨rfl, ⟨vl1, va1, hd1⟩, hl1, hf1⟩
  have hs1 := hf1.blk HS.out rfl N1.out
  have ht1 := hf1.blk HT.out rfl N3.out.symm
  have HD1 := Lib.hid hd1
  have HL1 := Lib.hid hl1
  have HF1 := Lib.hid hf1
  have HS1 := Lib.hid hs1
  have HT1 := Lib.hid ht1
  clear hd1 hl1 hf1 hs1 ht1
  go_wp2_with fail
  refine (over_any (l.acq d).1 HS1.out HT1.out).mono ?_
  rintro e w2 ⟨rfl, rfl⟩
  go_wp2_with fail
  go_ret
  refine ⟨rfl, ⟨_, _, HD1.out.off HS1.out rfl 1 _, ?_, HL1.out.far N1.out.symm _, HT1.out.far (HT1.out.blk_ne HS1.out (by decide)) _⟩, Fr.sets (HF1.out.mono (fun b e => Or.inr (Or.inl e))) hB1 _ _⟩
  have := HS1.out.set_ 1 (.bool (l.acq d).1)
  rw [show (Ts.step ⟨ov, .acq, l, al, sh, d⟩).lk.kd = 6 from (lk_kd_acq l d).trans HK.out]
  exact this
set_option maxRecDepth 100000 in
set_option maxHeartbeats 4000000 in
theorem acqReady_6 (hk : t.lk.kd = 6) (ha : t.task = .acq) (h : TsM W B L s lb tb vl va t) (hd : Dsk W db L) (hB1 : B ≤ s) (hB2 : B ≤ lb) (hn : t.d.log.length ≤ 100000) :
    Calls Try.prog 86 #[.pointer (some ⟨tb, 0, none⟩), .pointer (some ⟨db, 0, none⟩)] W (TsR B L s lb tb W t.ready) := by
  obtain ⟨ov, p, l, al, sh, d⟩ := t
  dsimp only at hk ha hn
  subst ha
  have hs0 : Blk W s 101 [.iface 157 (.pointer (some ⟨lb, 0, none⟩)), .bool al, .bool sh] := by
    have := h.se
    dsimp only [seL] at this
    rw [hk] at this
    exact this
  have ht0 : Blk W tb 107 [.pointer (some ⟨s, 0, none⟩)] := h.tk
  have s0 : W.cell? ⟨s, 0, none⟩ = some (.iface 157 (.pointer (some ⟨lb, 0, none⟩))) := hs0.cell rfl
  have t0 : W.cell? ⟨tb, 0, none⟩ = some (.pointer (some ⟨s, 0, none⟩)) := ht0.cell rfl
  have HD : Hid (DM W B L vl va d) := h.dm
  have HDk := Lib.hid hd
  have HL : Hid (LkB W lb l) := h.lk
  have HS := Lib.hid hs0
  have HT := Lib.hid ht0
  have HK := Lib.hid hk
  have N1 := Lib.hid h.ne1
  have N3 := Lib.hid h.ne3
  clear h hd hs0 ht0 hk
  go_enter Try.func86, Try.ntmps86
  go_wp2_with fail
  refine (place_beg (by simp [HK.out]) HD.out HL.out hB2 _).mono ?_
  rintro e w1 ⟨rfl, ⟨vl1, va1, hd1⟩, hl1, hf1⟩
  have hs1 := hf1.blk HS.out rfl N1.out
  have ht1 := hf1.blk HT.out rfl N3.out.symm
  have HD1 := Lib.hid hd1
  have HL1 := Lib.hid hl1
  have HF1 := Lib.hid hf1
  have HS1 := Lib.hid hs1
  have HT1 := Lib.hid ht1
  clear hd1 hl1 hf1 hs1 ht1
  go_wp2_with fail
  refine (over_any (l.beg d).1 HS1.out HT1.out).mono ?_
  rintro e w2 ⟨rfl, rfl⟩
  go_wp2_with fail
  go_ret
  refine ⟨rfl, ⟨_, _, HD1.out.off HS1.out rfl 1 _, ?_, HL1.out.far N1.out.symm _, HT1.out.far (HT1.out.blk_ne HS1.out (by decide)) _⟩, Fr.sets (HF1.out.mono (fun b e => Or.inr (Or.inl e))) hB1 _ _⟩
  have := HS1.out.set_ 1 (.bool (l.beg d).1)
  rw [show (Ts.ready ⟨ov, .acq, l, al, sh, d⟩).lk.kd = 6 from (lk_kd_beg l d).trans HK.out]
  exact this
set_option maxRecDepth 100000 in
set_option maxHeartbeats 4000000 in
theorem relStep_6 (hk : t.lk.kd = 6) (ha : t.task = .rel) (h : TsM W B L s lb tb vl va t) (hd : Dsk W db L) (hB1 : B ≤ s) (hB2 : B ≤ lb) (hn : t.d.log.length ≤ 100000) :
    Calls Try.prog 90 #[.pointer (some ⟨tb, 0, none⟩), .pointer (some ⟨db, 0, none⟩)] W (TsR B L s lb tb W t.step) := by
  obtain ⟨ov, p, l, al, sh, d⟩ := t
  dsimp only at hk ha hn
  subst ha
  have hs0 : Blk W s 101 [.iface 157 (.pointer (some ⟨lb, 0, none⟩)), .bool al, .bool sh] := by
    have := h.se
    dsimp only [seL] at this
    rw [hk] at this
    exact this
  have ht0 : Blk W tb 110 [.pointer (some ⟨s, 0, none⟩)] := h.tk
  have s0 : W.cell? ⟨s, 0, none⟩ = some (.iface 157 (.pointer (some ⟨lb, 0, none⟩))) := hs0.cell rfl
  have t0 : W.cell? ⟨tb, 0, none⟩ = some (.pointer (some ⟨s, 0, none⟩)) := ht0.cell rfl
  have HD : Hid (DM W B L vl va d) := h.dm
  have HDk := Lib.hid hd
  have HL : Hid (LkB W lb l) := h.lk
  have HS := Lib.hid hs0
  have HT := Lib.hid ht0
  have HK := Lib.hid hk
  have N1 := Lib.hid h.ne1
  have N3 := Lib.hid h.ne3
  clear h hd hs0 ht0 hk
  go_enter Try.func90, Try.ntmps90
  go_wp2_with fail
  refine (bake_rel HK.out HD.out HDk.out HL.out hB2 hn).mono ?_
  rintro e w1 ⟨rfl, ⟨vl1, va1, hd1⟩, hl1, hf1⟩
  have hs1 := hf1.blk HS.out rfl N1.out
  have ht1 := hf1.blk HT.out rfl N3.out.symm
  have t0' : w1.cell? ⟨tb, 0, none⟩ = some (.pointer (some ⟨s, 0, none⟩)) := ht1.cell rfl
  have s1' : w1.cell? ⟨s, 1, none⟩ = some (.bool al) := hs1.cell rfl
  have f1' := hs1.frozen 1
  have HD1 := Lib.hid hd1
  have HL1 := Lib.hid hl1
  have HF1 := Lib.hid hf1
  have HS1 := Lib.hid hs1
  have HT1 := Lib.hid ht1
  clear hd1 hl1 hf1 hs1 ht1
  go_wp2_with fail
  go_ret
  refine ⟨rfl, ⟨_, _, HD1.out.off HS1.out rfl 1 _, ?_, HL1.out.far N1.out.symm _, HT1.out.far (HT1.out.blk_ne HS1.out (by decide)) _⟩, Fr.sets (HF1.out.mono (fun b e => Or.inr (Or.inl e))) hB1 _ _⟩
  have := HS1.out.set_ 1 (.bool (!(l.rel d).1))
  rw [show (Ts.step ⟨ov, .rel, l, al, sh, d⟩).lk.kd = 6 from (lk_kd_rel l d).trans HK.out]
  exact this
end
theorem kok1 : KOk 1 := ⟨acqStep_1, acqReady_1, relStep_1⟩
theorem kok7 : KOk 7 := ⟨acqStep_7, acqReady_7, relStep_7⟩
theorem kok3 : KOk 3 := ⟨acqStep_3, acqReady_3, relStep_3⟩
theorem kok4 : KOk 4 := ⟨acqStep_4, acqReady_4, relStep_4⟩
theorem kok5 : KOk 5 := ⟨acqStep_5, acqReady_5, relStep_5⟩
theorem kok6 : KOk 6 := ⟨acqStep_6, acqReady_6, relStep_6⟩
theorem kok_all {k : Int} (h : 1 ≤ k ∧ k ≤ 7) : KOk k := by
  obtain rfl | rfl | rfl | rfl | rfl | rfl | rfl : k = 1 ∨ k = 2 ∨ k = 3 ∨ k = 4 ∨ k = 5 ∨ k = 6 ∨ k = 7 := by omega
  · exact kok1
  · exact kok2
  · exact kok3
  · exact kok4
  · exact kok5
  · exact kok6
  · exact kok7
end Go.Proofs.Ytjnmlgfkiebkgaa
