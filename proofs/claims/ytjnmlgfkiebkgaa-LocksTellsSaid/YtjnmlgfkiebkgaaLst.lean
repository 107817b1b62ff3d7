/-
  The tasks: acquiring, releasing, sharing, touching.
-/
import Derived.Test.YtjnmlgfkiebkgaaLtk
import Derived.Handy
namespace Go.Proofs.Ytjnmlgfkiebkgaa
open Go.RowKit
set_option linter.unusedVariables false
set_option linter.unusedSimpArgs false

/-- the type of a pointer to a lock, by its kind -/
def lkP (kd : Int) : TypeId := bif kd == 2 then 145 else bif kd == 3 then 148 else bif kd == 4 then 151 else bif kd == 5 then 154 else bif kd == 6 then 157 else 142
def tkT : Tp → TypeId
  | .acq => 107
  | .rel => 110
  | .shr _ _ _ => 113
  | .tch _ _ => 116
def tkP : Tp → TypeId
  | .acq => 105
  | .rel => 109
  | .shr _ _ _ => 111
  | .tch _ _ => 114
def tkL (s : Nat) : Tp → List Value
  | .acq => [.pointer (some ⟨s, 0, none⟩)]
  | .rel => [.pointer (some ⟨s, 0, none⟩)]
  | .shr b w k => [.pointer (some ⟨s, 0, none⟩), .int .i64 b, .int .i64 w, .bool k]
  | .tch c k => [.int .u64 c, .bool k]
abbrev seL (lb : Nat) (kd : Int) (alone shares : Bool) : List Value := [.iface (lkP kd) (.pointer (some ⟨lb, 0, none⟩)), .bool alone, .bool shares]
theorem tkT_mine (p : Tp) : mineT (tkT p) = false := by cases p <;> rfl
theorem lkT_in (k : Int) : lkT k ∈ [147, 150, 153, 156, 159, 144] := by
  unfold lkT
  cases k == 2 <;> cases k == 3 <;> cases k == 4 <;> cases k == 5 <;> cases k == 6 <;> simp
theorem tkT_in (p : Tp) : tkT p ∈ [107, 110, 113, 116] := by cases p <;> simp [tkT]
theorem tkT_seat (p : Tp) : tkT p ≠ 101 := fun e => by have := tkT_in p; rw [e] at this; exact absurd this (by decide)
theorem ne_in {l l' : List Nat} (h : ∀ x ∈ l, ∀ y ∈ l', x ≠ y) {a b : Nat} (ha : a ∈ l) (hb : b ∈ l') : a ≠ b := h a ha b hb
theorem lkT_tk (k : Int) (p : Tp) : lkT k ≠ tkT p := ne_in (by decide) (lkT_in k) (tkT_in p)
theorem lkT_seat (k : Int) : lkT k ≠ 101 := fun e => by have := lkT_in k; rw [e] at this; exact absurd this (by decide)
/-- a task at its desk, in memory -/
structure TsM (W : World) (B : Nat) (L : DL) (s lb tb : Nat) (vl va : Value) (t : Ts) : Prop where
  dm : DM W B L vl va t.d
  se : Blk W s 101 (seL lb t.lk.kd t.alone t.shares)
  lk : LkB W lb t.lk
  tk : Blk W tb (tkT t.task) (tkL s t.task)
abbrev TsX (s lb tb : Nat) (b : Nat) : Prop := b = s ∨ b = lb ∨ b = tb
def TsR (B : Nat) (L : DL) (s lb tb : Nat) (W : World) (t : Ts) (e : Ending) (w' : World) : Prop :=
  e = .returned (.bool t.over) ∧ (∃ vl va, TsM w' B L s lb tb vl va t) ∧ Fr (TsX s lb tb) B W w'
theorem Fr.fno {B : Nat} {X : Nat → Prop} {w w' : World} (h : Fr (fun _ => False) B w w') : Fr X B w w' := h.mono (fun _ e => e.elim)

theorem Fr.sets {B s lb tb : Nat} {w w' : World} (h : Fr (TsX s lb tb) B w w') (hB : B ≤ s) (i : Nat) (u : Value) : Fr (TsX s lb tb) B w (w'.setCell ⟨s, i, none⟩ u) := h.setCell hB (Or.inl (Or.inl rfl)) u
theorem Fr.sett {B s lb tb : Nat} {w w' : World} (h : Fr (TsX s lb tb) B w w') (hB : B ≤ tb) (i : Nat) (u : Value) : Fr (TsX s lb tb) B w (w'.setCell ⟨tb, i, none⟩ u) := h.setCell hB (Or.inl (Or.inr (Or.inr rfl))) u

section
variable {W : World} {B db lb s tb : Nat} {L : DL} {vl va : Value} {t : Ts}
theorem TsM.ne1 (h : TsM W B L s lb tb vl va t) : s ≠ lb := (h.lk.blk_ne h.se (lkT_seat _)).symm
theorem TsM.ne2 (h : TsM W B L s lb tb vl va t) : s ≠ tb := (h.tk.blk_ne h.se (tkT_seat _)).symm
theorem TsM.ne3 (h : TsM W B L s lb tb vl va t) : lb ≠ tb := h.lk.blk_ne h.tk (lkT_tk _ _)
set_option maxRecDepth 100000 in
set_option maxHeartbeats 4000000 in
theorem over_any {v : Value} {al sh : Bool} (b : Bool) (hs : Blk W s 101 [v, .bool al, .bool sh]) (ht : Blk W tb 107 [.pointer (some ⟨s, 0, none⟩)]) :
    Calls Try.prog 88 #[.pointer (some ⟨tb, 0, none⟩), .bool b] W fun e w' => e = .returned (.bool b) ∧ w' = W.setCell ⟨s, 1, none⟩ (.bool b) := by
  have s1 : W.cell? ⟨s, 1, none⟩ = some (.bool al) := hs.cell rfl
  have f1 := hs.frozen 1
  have t0 : W.cell? ⟨tb, 0, none⟩ = some (.pointer (some ⟨s, 0, none⟩)) := ht.cell rfl
  clear hs ht
  go_enter Try.func88, Try.ntmps88
  go_wp2_with fail
  go_ret
  exact ⟨rfl, rfl⟩
end
theorem kd_if {b : Bool} {x y : Bool × Lk × Dk} {k : Int} (hx : x.2.1.kd = k) (hy : y.2.1.kd = k) : (cond b x y).2.1.kd = k := by cases b <;> assumption
theorem lk_kd_beg (l : Lk) (d : Dk) : (l.beg d).2.1.kd = l.kd := kd_if (kd_if rfl rfl) rfl
theorem lk_kd_up (l : Lk) (d : Dk) : (l.up d).2.1.kd = l.kd := kd_if rfl rfl
theorem lk_kd_acq (l : Lk) (d : Dk) : (l.acq d).2.1.kd = l.kd :=
  kd_if (kd_if rfl (kd_if (kd_if rfl rfl) rfl))
    (kd_if (kd_if rfl (kd_if rfl (kd_if (kd_if rfl rfl) rfl)))
      (kd_if (kd_if rfl (kd_if rfl (kd_if (kd_if (kd_if rfl rfl) rfl) (kd_if rfl (kd_if rfl (kd_if rfl rfl))))))
        (kd_if (kd_if rfl (kd_if rfl (kd_if (kd_if rfl (kd_if (lk_kd_up _ _) rfl)) (kd_if rfl (lk_kd_up _ _)))))
          (kd_if (kd_if rfl (kd_if rfl (kd_if rfl (kd_if rfl (kd_if rfl (kd_if rfl rfl)))))) (kd_if rfl rfl)))))
theorem lk_kd_rel (l : Lk) (d : Dk) : (l.rel d).2.1.kd = l.kd :=
  kd_if rfl (kd_if rfl (kd_if (kd_if rfl (kd_if (kd_if rfl rfl) rfl)) (kd_if rfl (kd_if rfl rfl))))
section
variable {W : World} {B db lb s tb : Nat} {L : DL} {vl va : Value} {t : Ts}
set_option maxRecDepth 100000 in
set_option maxHeartbeats 4000000 in
theorem acqStep_2 (hk : t.lk.kd = 2) (ha : t.task = .acq) (h : TsM W B L s lb tb vl va t) (hd : Dsk W db L) (hB1 : B ≤ s) (hB2 : B ≤ lb) (hn : t.d.log.length ≤ 100000) :
    Calls Try.prog 87 #[.pointer (some ⟨tb, 0, none⟩), .pointer (some ⟨db, 0, none⟩)] W (TsR B L s lb tb W t.step) := by
  obtain ⟨ov, p, l, al, sh, d⟩ := t
  dsimp only at hk ha hn
  subst ha
  have hs0 : Blk W s 101 [.iface 145 (.pointer (some ⟨lb, 0, none⟩)), .bool al, .bool sh] := by
    have := h.se
    dsimp only [seL] at this
    rw [hk] at this
    exact this
  have ht0 : Blk W tb 107 [.pointer (some ⟨s, 0, none⟩)] := h.tk
  have s0 : W.cell? ⟨s, 0, none⟩ = some (.iface 145 (.pointer (some ⟨lb, 0, none⟩))) := hs0.cell rfl
  have t0 : W.cell? ⟨tb, 0, none⟩ = some (.pointer (some ⟨s, 0, none⟩)) := ht0.cell rfl
  have HD : Hid (DM W B L vl va d) := h.dm
  have HDk := Lib.hid hd
  have HL : Hid (LkB W lb l) := h.lk
  have HS := Lib.hid hs0
  have HT := Lib.hid ht0
  have HK := Lib.hid hk
  have N1 := Lib.hid h.ne1
  have N3 := Lib.hid h.ne3
  clear h hd hs0 ht0 hk
  go_enter Try.func87, Try.ntmps87
  go_wp2_with fail
  refine (tick_acq HK.out HD.out HDk.out HL.out hB2 hn).mono ?_
  rintro e w1 ⟨rfl, ⟨vl1, va1, hd1⟩, hl1, hf1⟩
  have hs1 := hf1.blk HS.out rfl N1.out
  have ht1 := hf1.blk HT.out rfl N3.out.symm
  have HD1 := Lib.hid hd1
  have HL1 := Lib.hid hl1
  have HF1 := Lib.hid hf1
  have HS1 := Lib.hid hs1
  have HT1 := Lib.hid ht1
  clear hd1 hl1 hf1 hs1 ht1
  go_wp2_with fail
  refine (over_any (l.acq d).1 HS1.out HT1.out).mono ?_
  rintro e w2 ⟨rfl, rfl⟩
  go_wp2_with fail
  go_ret
  refine ⟨rfl, ⟨_, _, HD1.out.off HS1.out rfl 1 _, ?_, HL1.out.far N1.out.symm _, HT1.out.far (HT1.out.blk_ne HS1.out (by decide)) _⟩, Fr.sets (HF1.out.mono (fun b e => Or.inr (Or.inl e))) hB1 _ _⟩
  have := HS1.out.set_ 1 (.bool (l.acq d).1)
  rw [show (Ts.step ⟨ov, .acq, l, al, sh, d⟩).lk.kd = 2 from (lk_kd_acq l d).trans HK.out]
  exact this
set_option maxRecDepth 100000 in
set_option maxHeartbeats 4000000 in
theorem acqReady_2 (hk : t.lk.kd = 2) (ha : t.task = .acq) (h : TsM W B L s lb tb vl va t) (hd : Dsk W db L) (hB1 : B ≤ s) (hB2 : B ≤ lb) (hn : t.d.log.length ≤ 100000) :
    Calls Try.prog 86 #[.pointer (some ⟨tb, 0, none⟩), .pointer (some ⟨db, 0, none⟩)] W (TsR B L s lb tb W t.ready) := by
  obtain ⟨ov, p, l, al, sh, d⟩ := t
  dsimp only at hk ha hn
  subst ha
  have hs0 : Blk W s 101 [.iface 145 (.pointer (some ⟨lb, 0, none⟩)), .bool al, .bool sh] := by
    have := h.se
    dsimp only [seL] at this
    rw [hk] at this
    exact this
  have ht0 : Blk W tb 107 [.pointer (some ⟨s, 0, none⟩)] := h.tk
  have s0 : W.cell? ⟨s, 0, none⟩ = some (.iface 145 (.pointer (some ⟨lb, 0, none⟩))) := hs0.cell rfl
  have t0 : W.cell? ⟨tb, 0, none⟩ = some (.pointer (some ⟨s, 0, none⟩)) := ht0.cell rfl
  have HD : Hid (DM W B L vl va d) := h.dm
  have HDk := Lib.hid hd
  have HL : Hid (LkB W lb l) := h.lk
  have HS := Lib.hid hs0
  have HT := Lib.hid ht0
  have HK := Lib.hid hk
  have N1 := Lib.hid h.ne1
  have N3 := Lib.hid h.ne3
  clear h hd hs0 ht0 hk
  go_enter Try.func86, Try.ntmps86
  go_wp2_with fail
  refine (place_beg (by simp [HK.out]) HD.out HL.out hB2 _).mono ?_
  rintro e w1 ⟨rfl, ⟨vl1, va1, hd1⟩, hl1, hf1⟩
  have hs1 := hf1.blk HS.out rfl N1.out
  have ht1 := hf1.blk HT.out rfl N3.out.symm
  have HD1 := Lib.hid hd1
  have HL1 := Lib.hid hl1
  have HF1 := Lib.hid hf1
  have HS1 := Lib.hid hs1
  have HT1 := Lib.hid ht1
  clear hd1 hl1 hf1 hs1 ht1
  go_wp2_with fail
  refine (over_any (l.beg d).1 HS1.out HT1.out).mono ?_
  rintro e w2 ⟨rfl, rfl⟩
  go_wp2_with fail
  go_ret
  refine ⟨rfl, ⟨_, _, HD1.out.off HS1.out rfl 1 _, ?_, HL1.out.far N1.out.symm _, HT1.out.far (HT1.out.blk_ne HS1.out (by decide)) _⟩, Fr.sets (HF1.out.mono (fun b e => Or.inr (Or.inl e))) hB1 _ _⟩
  have := HS1.out.set_ 1 (.bool (l.beg d).1)
  rw [show (Ts.ready ⟨ov, .acq, l, al, sh, d⟩).lk.kd = 2 from (lk_kd_beg l d).trans HK.out]
  exact this
set_option maxRecDepth 100000 in
set_option maxHeartbeats 4000000 in
theorem relStep_2 (hk : t.lk.kd = 2) (ha : t.task = .rel) (h : TsM W B L s lb tb vl va t) (hd : Dsk W db L) (hB1 : B ≤ s) (hB2 : B ≤ lb) (hn : t.d.log.length ≤ 100000) :
    Calls Try.prog 90 #[.pointer (some ⟨tb, 0, none⟩), .pointer (some ⟨db, 0, none⟩)] W (TsR B L s lb tb W t.step) := by
  obtain ⟨ov, p, l, al, sh, d⟩ := t
  dsimp only at hk ha hn
  subst ha
  have hs0 : Blk W s 101 [.iface 145 (.pointer (some ⟨lb, 0, none⟩)), .bool al, .bool sh] := by
    have := h.se
    dsimp only [seL] at this
    rw [hk] at this
    exact this
  have ht0 : Blk W tb 110 [.pointer (some ⟨s, 0, none⟩)] := h.tk
  have s0 : W.cell? ⟨s, 0, none⟩ = some (.iface 145 (.pointer (some ⟨lb, 0, none⟩))) := hs0.cell rfl
  have t0 : W.cell? ⟨tb, 0, none⟩ = some (.pointer (some ⟨s, 0, none⟩)) := ht0.cell rfl
  have HD : Hid (DM W B L vl va d) := h.dm
  have HDk := Lib.hid hd
  have HL : Hid (LkB W lb l) := h.lk
  have HS := Lib.hid hs0
  have HT := Lib.hid ht0
  have HK := Lib.hid hk
  have N1 := Lib.hid h.ne1
  have N3 := Lib.hid h.ne3
  clear h hd hs0 ht0 hk
  go_enter Try.func90, Try.ntmps90
  go_wp2_with fail
  refine (tick_rel HK.out HD.out HDk.out HL.out hB2 hn).mono ?_
  rintro e w1 ⟨rfl, ⟨vl1, va1, hd1⟩, hl1, hf1⟩
  have hs1 := hf1.blk HS.out rfl N1.out
  have ht1 := hf1.blk HT.out rfl N3.out.symm
  have t0' : w1.cell? ⟨tb, 0, none⟩ = some (.pointer (some ⟨s, 0, none⟩)) := ht1.cell rfl
  have s1' : w1.cell? ⟨s, 1, none⟩ = some (.bool al) := hs1.cell rfl
  have f1' := hs1.frozen 1
  have HD1 := Lib.hid hd1
  have HL1 := Lib.hid hl1
  have HF1 := Lib.hid hf1
  have HS1 := Lib.hid hs1
  have HT1 := Lib.hid ht1
  clear hd1 hl1 hf1 hs1 ht1
  go_wp2_with fail
  go_ret
  refine ⟨rfl, ⟨_, _, HD1.out.off HS1.out rfl 1 _, ?_, HL1.out.far N1.out.symm _, HT1.out.far (HT1.out.blk_ne HS1.out (by decide)) _⟩, Fr.sets (HF1.out.mono (fun b e => Or.inr (Or.inl e))) hB1 _ _⟩
  have := HS1.out.set_ 1 (.bool (!(l.rel d).1))
  rw [show (Ts.step ⟨ov, .rel, l, al, sh, d⟩).lk.kd = 2 from (lk_kd_rel l d).trans HK.out]
  exact this
end
end Go.Proofs.Ytjnmlgfkiebkgaa
