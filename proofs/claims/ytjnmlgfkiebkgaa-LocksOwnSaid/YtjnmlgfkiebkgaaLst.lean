/-
  The tasks: acquiring, releasing, sharing, touching.
-/
import Derived.Test.YtjnmlgfkiebkgaaLds
import Derived.Handy
namespace Go.Proofs.Ytjnmlgfkiebkgaa
open Go.RowKit
set_option linter.unusedVariables false
set_option linter.unusedSimpArgs false

/-- a lock's block, by its kind -/
def lkT (kd : Int) : TypeId := bif kd == 2 then 147 else bif kd == 3 then 150 else bif kd == 4 then 153 else bif kd == 5 then 156 else bif kd == 6 then 159 else 144
def lkL (l : Lk) : List Value :=
  [.int .i64 l.me, .int .i64 l.all, .int .i64 l.at_] ++ (bif l.kd == 2 then [.int .u64 l.x] else bif l.kd == 3 then [.int .i64 l.x, .int .u64 l.y] else bif l.kd == 4 then [.int .u64 l.y, .int .u64 l.x] else bif l.kd == 5 then [.int .i64 l.x, .int .i64 l.y] else bif l.kd == 6 then [.int .i64 l.x, .int .i64 l.y] else [.bool (l.kd == 7)])
def LkB (W : World) (lb : Nat) (l : Lk) : Prop := Blk W lb (lkT l.kd) (lkL l)
theorem lkT_mine (k : Int) : mineT (lkT k) = false := by
  unfold lkT
  cases k == 2 <;> cases k == 3 <;> cases k == 4 <;> cases k == 5 <;> cases k == 6 <;> rfl
/-- what a lock's step answers, and leaves -/
def LkR (B : Nat) (L : DL) (lb : Nat) (W : World) (r : Bool × Lk × Dk) (e : Ending) (w' : World) : Prop :=
  e = .returned (.bool r.1) ∧ (∃ vl va, DM w' B L vl va r.2.2) ∧ LkB w' lb r.2.1 ∧ Fr (fun b => b = lb) B W w'
theorem Fr.no {B : Nat} {X : Nat → Prop} {w w' : World} (h : Fr (fun _ => False) B w w') : Fr X B w w' := h.mono (fun _ e => e.elim)

theorem Fr.here {B lb : Nat} {w w' : World} (h : Fr (fun b => b = lb) B w w') (hB : B ≤ lb) (i : Nat) (u : Value) : Fr (fun b => b = lb) B w (w'.setCell ⟨lb, i, none⟩ u) := h.setCell hB (Or.inl rfl) u

section
variable {W : World} {B db lb : Nat} {L : DL} {vl va : Value} {d : Dk} {l : Lk}
set_option maxRecDepth 100000 in
set_option maxHeartbeats 4000000 in
theorem tick_acq (hk : l.kd = 2) (h : DM W B L vl va d) (hd : Dsk W db L) (hl : LkB W lb l) (hB : B ≤ lb) (hn : d.log.length ≤ 100000) : Calls Try.prog 114 #[.pointer (some ⟨lb, 0, none⟩), .pointer (some ⟨db, 0, none⟩)] W (LkR B L lb W (l.acq d)) := by
  obtain ⟨kd, me, all, at_, x, y⟩ := l
  dsimp only at hk
  subst hk
  have hl0 : Blk W lb 147 [.int .i64 me, .int .i64 all, .int .i64 at_, .int .u64 x] := hl
  have l2 : W.cell? ⟨lb, 2, none⟩ = some (.int .i64 at_) := hl0.cell rfl
  have l3 : W.cell? ⟨lb, 3, none⟩ = some (.int .u64 x) := hl0.cell rfl
  have g2 := hl0.frozen 2
  have g3 := hl0.frozen 3
  have HD := Lib.hid h
  have HK := Lib.hid hd
  have HL := Lib.hid hl0
  clear h hd hl hl0
  change Calls _ _ _ _ (LkR B L lb W (Lk.tickA ⟨2, me, all, at_, x, y⟩ d))
  cases a0 : at_ == 0 with
  | true =>
    have e1 : Lk.tickA ⟨2, me, all, at_, x, y⟩ d = (false, ⟨2, me, all, 1, (d.load 1).1, y⟩, (d.load 1).2) := by unfold Lk.tickA; dsimp only; rw [a0]; rfl
    rw [e1]
    clear e1
    go_enter Try.func114, Try.ntmps114
    go_wp2_with fail
    refine (dload_any HD.out HK.out hn 1).mono ?_
    rintro e w1 ⟨rfl, ⟨vl1, va1, hd1⟩, hf1⟩
    have hl1 := hf1.blk HL.out rfl (by simp)
    have l2' : w1.cell? ⟨lb, 2, none⟩ = some (.int .i64 at_) := hl1.cell rfl
    have l3' : w1.cell? ⟨lb, 3, none⟩ = some (.int .u64 x) := hl1.cell rfl
    have g2' := hl1.frozen 2
    have g3' := hl1.frozen 3
    have HD1 := Lib.hid hd1
    have HF1 := Lib.hid hf1
    have HL1 := Lib.hid hl1
    clear hd1 hf1 hl1
    go_wp2_with fail
    go_ret
    exact ⟨rfl, ⟨_, _, (HD1.out.off HL1.out rfl 3 _).off (HL1.out.set_ 3 _) rfl 2 _⟩, ((HL1.out.set_ 3 (.int .u64 (d.load 1).1)).set_ 2 (.int .i64 1)), (HF1.out.no.here hB _ _).here hB _ _⟩
  | false =>
  cases a1 : at_ == 1 with
  | true =>
    have e1 : Lk.tickA ⟨2, me, all, at_, x, y⟩ d = bif (d.swap 1 x (uw (x + 1))).1 then (false, ⟨2, me, all, 2, x, y⟩, (d.swap 1 x (uw (x + 1))).2.point) else (false, ⟨2, me, all, 0, x, y⟩, (d.swap 1 x (uw (x + 1))).2) := by unfold Lk.tickA; dsimp only; rw [a0, a1]; rfl
    rw [e1]
    clear e1
    go_enter Try.func114, Try.ntmps114
    go_upto_region 7 with fail
    refine wp_region_held_drew (S := fun W => W.cell? ⟨lb, 3, none⟩ = some (.int .u64 x)) (by kernel_rfl) l3 (fun hS => ?_)
    iterate 10 (refine tkF 0 (v := ?_) ?_ ?_; rotate_left; · (intro W hSw; (try dsimp only at hSw); go_simp; try with_reducible rfl); try simp only [Act.put, List.setIfInBounds_toArray, List.set_cons_zero, List.set_cons_succ])
    refine rd 10 fun K1 hK1 => ?_
    go_simp
    go_at_call 94
    refine (dswap_any (HD.out.on (Below.refl _ W).drew) HK.out hn 1 x (uw (x + 1))).mono ?_
    rintro e w1 ⟨rfl, ⟨vl1, va1, hd1⟩, hf1⟩
    have hl1 := hf1.blk HL.out rfl (by simp)
    have hk1 : Dsk w1 db L := hf1.blk HK.out rfl (by simp)
    refine hK1.out _ _ (hl1.cell rfl) (fun _ => ?_)
    have l2' : w1.cell? ⟨lb, 2, none⟩ = some (.int .i64 at_) := hl1.cell rfl
    have g2' := hl1.frozen 2
    have HD1 := Lib.hid hd1
    have HF1 : Hid (Fr (fun _ => False) B W w1) := (Fr.refl _ _ _).drew.trans hf1
    have HL1 := Lib.hid hl1
    have HK1 := Lib.hid hk1
    clear hd1 hf1 hl1 hk1
    iterate 1 (refine tkF 0 (v := ?_) ?_ ?_; rotate_left; · (intro W hSw; (try dsimp only at hSw); go_simp; try with_reducible rfl); try simp only [Act.put, List.setIfInBounds_toArray, List.set_cons_zero, List.set_cons_succ])
    refine wpAnyH_done (by kernel_rfl) ?_ _
    cases hs : (d.swap 1 x (uw (x + 1))).1 with
    | false =>
      have HS := Lib.hid hs
      clear hs
      go_wp2_with fail
      go_ret
      rw [HS.out]
      exact ⟨rfl, ⟨_, _, HD1.out.off HL1.out rfl 2 _⟩, HL1.out.set_ 2 (.int .i64 0), HF1.out.no.here hB _ _⟩
    | true =>
      have HS := Lib.hid hs
      clear hs
      go_wp2_with fail
      refine (ptnow_any HD1.out HK1.out).mono ?_
      rintro e w2 ⟨rfl, ⟨vl2, va2, hd2⟩, hf2⟩
      have hl2 := hf2.blk HL1.out rfl (by simp)
      have l2'' : w2.cell? ⟨lb, 2, none⟩ = some (.int .i64 at_) := hl2.cell rfl
      have g2'' := hl2.frozen 2
      have HD2 := Lib.hid hd2
      have HF2 := Lib.hid (HF1.out.trans hf2)
      have HL2 := Lib.hid hl2
      clear hd2 hf2 hl2
      go_wp2_with fail
      go_ret
      rw [HS.out]
      exact ⟨rfl, ⟨_, _, HD2.out.off HL2.out rfl 2 _⟩, HL2.out.set_ 2 (.int .i64 2), HF2.out.no.here hB _ _⟩
  | false =>
    have e1 : Lk.tickA ⟨2, me, all, at_, x, y⟩ d = ((d.load 2).1 == x, ⟨2, me, all, at_, x, y⟩, (d.load 2).2) := by unfold Lk.tickA; dsimp only; rw [a0, a1]; rfl
    rw [e1]
    clear e1
    go_enter Try.func114, Try.ntmps114
    go_upto_region 2 with fail
    refine wp_region_held_drew (S := fun W => W.cell? ⟨lb, 3, none⟩ = some (.int .u64 x)) (by kernel_rfl) l3 (fun hS => ?_)
    iterate 1 (refine tkF 0 (v := ?_) ?_ ?_; rotate_left; · (intro W hSw; (try dsimp only at hSw); go_simp; try with_reducible rfl); try simp only [Act.put, List.setIfInBounds_toArray, List.set_cons_zero, List.set_cons_succ])
    iterate 4 (refine tkF 2 (v := ?_) ?_ ?_; rotate_left; · (intro W hSw; (try dsimp only at hSw); go_simp; try with_reducible rfl); try simp only [Act.put, List.setIfInBounds_toArray, List.set_cons_zero, List.set_cons_succ])
    refine rd 1 fun K1 hK1 => ?_
    go_simp
    go_at_call 93
    refine (dload_any (HD.out.on (Below.refl _ W).drew) HK.out hn 2).mono ?_
    rintro e w1 ⟨rfl, ⟨vl1, va1, hd1⟩, hf1⟩
    have hl1 := hf1.blk HL.out rfl (by simp)
    refine hK1.out _ _ (hl1.cell rfl) (fun _ => ?_)
    have HD1 := Lib.hid hd1
    have HF1 : Hid (Fr (fun _ => False) B W w1) := (Fr.refl _ _ _).drew.trans hf1
    have HL1 := Lib.hid hl1
    clear hd1 hf1 hl1
    iterate 2 (refine tkF 0 (v := ?_) ?_ ?_; rotate_left; · (intro W hSw; (try dsimp only at hSw); go_simp; try with_reducible rfl); try simp only [Act.put, List.setIfInBounds_toArray, List.set_cons_zero, List.set_cons_succ])
    refine wpAnyH_done (by kernel_rfl) ?_ _
    go_wp2_with fail
    go_ret
    exact ⟨rfl, ⟨_, _, HD1.out⟩, HL1.out, HF1.out.no⟩
set_option maxRecDepth 100000 in
set_option maxHeartbeats 4000000 in
theorem tick_rel (hk : l.kd = 2) (h : DM W B L vl va d) (hd : Dsk W db L) (hl : LkB W lb l) (hB : B ≤ lb) (hn : d.log.length ≤ 100000) : Calls Try.prog 115 #[.pointer (some ⟨lb, 0, none⟩), .pointer (some ⟨db, 0, none⟩)] W (LkR B L lb W (l.rel d)) := by
  obtain ⟨kd, me, all, at_, x, y⟩ := l
  dsimp only at hk
  subst hk
  have hl0 : Blk W lb 147 [.int .i64 me, .int .i64 all, .int .i64 at_, .int .u64 x] := hl
  have l2 : W.cell? ⟨lb, 2, none⟩ = some (.int .i64 at_) := hl0.cell rfl
  have l3 : W.cell? ⟨lb, 3, none⟩ = some (.int .u64 x) := hl0.cell rfl
  have g2 := hl0.frozen 2
  have g3 := hl0.frozen 3
  have HD := Lib.hid h
  have HK := Lib.hid hd
  have HL := Lib.hid hl0
  clear h hd hl hl0
  have e1 : Lk.rel ⟨2, me, all, at_, x, y⟩ d = (true, ⟨2, me, all, at_, x, y⟩, d.store 2 (uw (x + 1))) := rfl
  rw [e1]
  clear e1
  go_enter Try.func115, Try.ntmps115
  go_wp2_with fail
  refine (dstore_any HD.out HK.out hn 2 (uw (x + 1))).mono ?_
  rintro e w1 ⟨rfl, ⟨vl1, va1, hd1⟩, hf1⟩
  have hl1 := hf1.blk HL.out rfl (by simp)
  have HD1 := Lib.hid hd1
  have HF1 := Lib.hid hf1
  have HL1 := Lib.hid hl1
  clear hd1 hf1 hl1
  go_wp2_with fail
  go_ret
  exact ⟨rfl, ⟨_, _, HD1.out⟩, HL1.out, HF1.out.no⟩
set_option maxRecDepth 100000 in
set_option maxHeartbeats 4000000 in
/-- place.begin -/
theorem place_beg (hk : l.kd ≠ 5) (h : DM W B L vl va d) (hl : LkB W lb l) (hB : B ≤ lb) (p : Value) : Calls Try.prog 110 #[.pointer (some ⟨lb, 0, none⟩), p] W (LkR B L lb W (l.beg d)) := by
  have e1 : l.beg d = (false, { l with at_ := 0 }, d) := by unfold Lk.beg; rw [show (l.kd == 5) = false by simpa using hk]; rfl
  rw [e1]
  clear e1
  have l2 : W.cell? ⟨lb, 2, none⟩ = some (.int .i64 l.at_) := Blk.cell hl rfl
  have g2 := Blk.frozen hl 2
  have HD := Lib.hid h
  have HL := Lib.hid hl
  clear h hl
  go_enter Try.func110, Try.ntmps110
  go_wp2_with fail
  go_ret
  exact ⟨rfl, ⟨_, _, HD.out.off HL.out (lkT_mine _) 2 _⟩, HL.out.set_ 2 (.int .i64 0), (Fr.refl _ _ _).here hB _ _⟩
end
end Go.Proofs.Ytjnmlgfkiebkgaa
namespace Go.Proofs.Ytjnmlgfkiebkgaa
open Go.RowKit
set_option linter.unusedVariables false
set_option linter.unusedSimpArgs false

/-- the type of a pointer to a lock, by its kind -/
def lkP (kd : Int) : TypeId := bif kd == 2 then 145 else bif kd == 3 then 148 else bif kd == 4 then 151 else bif kd == 5 then 154 else bif kd == 6 then 157 else 142
def tkT : Tp → TypeId
  | .acq => 107
  | .rel => 110
  | .shr _ _ _ => 113
  | .tch _ _ => 116
def tkP : Tp → TypeId
  | .acq => 105
  | .rel => 109
  | .shr _ _ _ => 111
  | .tch _ _ => 114
def tkL (s : Nat) : Tp → List Value
  | .acq => [.pointer (some ⟨s, 0, none⟩)]
  | .rel => [.pointer (some ⟨s, 0, none⟩)]
  | .shr b w k => [.pointer (some ⟨s, 0, none⟩), .int .i64 b, .int .i64 w, .bool k]
  | .tch c k => [.int .u64 c, .bool k]
abbrev seL (lb : Nat) (kd : Int) (alone shares : Bool) : List Value := [.iface (lkP kd) (.pointer (some ⟨lb, 0, none⟩)), .bool alone, .bool shares]
theorem tkT_mine (p : Tp) : mineT (tkT p) = false := by cases p <;> rfl
theorem lkT_in (k : Int) : lkT k ∈ [147, 150, 153, 156, 159, 144] := by
  unfold lkT
  cases k == 2 <;> cases k == 3 <;> cases k == 4 <;> cases k == 5 <;> cases k == 6 <;> simp
theorem tkT_in (p : Tp) : tkT p ∈ [107, 110, 113, 116] := by cases p <;> simp [tkT]
theorem tkT_seat (p : Tp) : tkT p ≠ 101 := fun e => by have := tkT_in p; rw [e] at this; exact absurd this (by decide)
theorem ne_in {l l' : List Nat} (h : ∀ x ∈ l, ∀ y ∈ l', x ≠ y) {a b : Nat} (ha : a ∈ l) (hb : b ∈ l') : a ≠ b := h a ha b hb
theorem lkT_tk (k : Int) (p : Tp) : lkT k ≠ tkT p := ne_in (by decide) (lkT_in k) (tkT_in p)
theorem lkT_seat (k : Int) : lkT k ≠ 101 := fun e => by have := lkT_in k; rw [e] at this; exact absurd this (by decide)
/-- a task at its desk, in memory -/
structure TsM (W : World) (B : Nat) (L : DL) (s lb tb : Nat) (vl va : Value) (t : Ts) : Prop where
  dm : DM W B L vl va t.d
  se : Blk W s 101 (seL lb t.lk.kd t.alone t.shares)
  lk : LkB W lb t.lk
  tk : Blk W tb (tkT t.task) (tkL s t.task)
abbrev TsX (s lb tb : Nat) (b : Nat) : Prop := b = s ∨ b = lb ∨ b = tb
def TsR (B : Nat) (L : DL) (s lb tb : Nat) (W : World) (t : Ts) (e : Ending) (w' : World) : Prop :=
  e = .returned (.bool t.over) ∧ (∃ vl va, TsM w' B L s lb tb vl va t) ∧ Fr (TsX s lb tb) B W w'
theorem Fr.fno {B : Nat} {X : Nat → Prop} {w w' : World} (h : Fr (fun _ => False) B w w') : Fr X B w w' := h.mono (fun _ e => e.elim)

theorem Fr.sets {B s lb tb : Nat} {w w' : World} (h : Fr (TsX s lb tb) B w w') (hB : B ≤ s) (i : Nat) (u : Value) : Fr (TsX s lb tb) B w (w'.setCell ⟨s, i, none⟩ u) := h.setCell hB (Or.inl (Or.inl rfl)) u
theorem Fr.sett {B s lb tb : Nat} {w w' : World} (h : Fr (TsX s lb tb) B w w') (hB : B ≤ tb) (i : Nat) (u : Value) : Fr (TsX s lb tb) B w (w'.setCell ⟨tb, i, none⟩ u) := h.setCell hB (Or.inl (Or.inr (Or.inr rfl))) u

section
variable {W : World} {B db lb s tb : Nat} {L : DL} {vl va : Value} {t : Ts}
theorem TsM.ne1 (h : TsM W B L s lb tb vl va t) : s ≠ lb := (h.lk.blk_ne h.se (lkT_seat _)).symm
theorem TsM.ne2 (h : TsM W B L s lb tb vl va t) : s ≠ tb := (h.tk.blk_ne h.se (tkT_seat _)).symm
theorem TsM.ne3 (h : TsM W B L s lb tb vl va t) : lb ≠ tb := h.lk.blk_ne h.tk (lkT_tk _ _)
set_option maxRecDepth 100000 in
set_option maxHeartbeats 4000000 in
theorem over_any {v : Value} {al sh : Bool} (b : Bool) (hs : Blk W s 101 [v, .bool al, .bool sh]) (ht : Blk W tb 107 [.pointer (some ⟨s, 0, none⟩)]) :
    Calls Try.prog 88 #[.pointer (some ⟨tb, 0, none⟩), .bool b] W fun e w' => e = .returned (.bool b) ∧ w' = W.setCell ⟨s, 1, none⟩ (.bool b) := by
  have s1 : W.cell? ⟨s, 1, none⟩ = some (.bool al) := hs.cell rfl
  have f1 := hs.frozen 1
  have t0 : W.cell? ⟨tb, 0, none⟩ = some (.pointer (some ⟨s, 0, none⟩)) := ht.cell rfl
  clear hs ht
  go_enter Try.func88, Try.ntmps88
  go_wp2_with fail
  go_ret
  exact ⟨rfl, rfl⟩
end
theorem kd_if {b : Bool} {x y : Bool × Lk × Dk} {k : Int} (hx : x.2.1.kd = k) (hy : y.2.1.kd = k) : (cond b x y).2.1.kd = k := by cases b <;> assumption
theorem lk_kd_beg (l : Lk) (d : Dk) : (l.beg d).2.1.kd = l.kd := kd_if (kd_if rfl rfl) rfl
theorem lk_kd_up (l : Lk) (d : Dk) : (l.up d).2.1.kd = l.kd := kd_if rfl rfl
theorem lk_kd_acq (l : Lk) (d : Dk) : (l.acq d).2.1.kd = l.kd :=
  kd_if (kd_if rfl (kd_if (kd_if rfl rfl) rfl))
    (kd_if (kd_if rfl (kd_if rfl (kd_if (kd_if rfl rfl) rfl)))
      (kd_if (kd_if rfl (kd_if rfl (kd_if (kd_if (kd_if rfl rfl) rfl) (kd_if rfl (kd_if rfl (kd_if rfl rfl))))))
        (kd_if (kd_if rfl (kd_if rfl (kd_if (kd_if rfl (kd_if (lk_kd_up _ _) rfl)) (kd_if rfl (lk_kd_up _ _)))))
          (kd_if (kd_if rfl (kd_if rfl (kd_if rfl (kd_if rfl (kd_if rfl (kd_if rfl rfl)))))) (kd_if rfl rfl)))))
theorem lk_kd_rel (l : Lk) (d : Dk) : (l.rel d).2.1.kd = l.kd :=
  kd_if rfl (kd_if rfl (kd_if (kd_if rfl (kd_if (kd_if rfl rfl) rfl)) (kd_if rfl (kd_if rfl rfl))))
section
variable {W : World} {B db lb s tb : Nat} {L : DL} {vl va : Value} {t : Ts}
set_option maxRecDepth 100000 in
set_option maxHeartbeats 4000000 in
theorem acqStep_2 (hk : t.lk.kd = 2) (ha : t.task = .acq) (h : TsM W B L s lb tb vl va t) (hd : Dsk W db L) (hB1 : B ≤ s) (hB2 : B ≤ lb) (hn : t.d.log.length ≤ 100000) :
    Calls Try.prog 87 #[.pointer (some ⟨tb, 0, none⟩), .pointer (some ⟨db, 0, none⟩)] W (TsR B L s lb tb W t.step) := by
  obtain ⟨ov, p, l, al, sh, d⟩ := t
  dsimp only at hk ha hn
  subst ha
  have hs0 : Blk W s 101 [.iface 145 (.pointer (some ⟨lb, 0, none⟩)), .bool al, .bool sh] := by
    have := h.se
    dsimp only [seL] at this
    rw [hk] at this
    exact this
  have ht0 : Blk W tb 107 [.pointer (some ⟨s, 0, none⟩)] := h.tk
  have s0 : W.cell? ⟨s, 0, none⟩ = some (.iface 145 (.pointer (some ⟨lb, 0, none⟩))) := hs0.cell rfl
  have t0 : W.cell? ⟨tb, 0, none⟩ = some (.pointer (some ⟨s, 0, none⟩)) := ht0.cell rfl
  have HD : Hid (DM W B L vl va d) := h.dm
  have HDk := Lib.hid hd
  have HL : Hid (LkB W lb l) := h.lk
  have HS := Lib.hid hs0
  have HT := Lib.hid ht0
  have HK := Lib.hid hk
  have N1 := Lib.hid h.ne1
  have N3 := Lib.hid h.ne3
  clear h hd hs0 ht0 hk
  go_enter Try.func87, Try.ntmps87
  go_wp2_with fail
  refine (tick_acq HK.out HD.out HDk.out HL.out hB2 hn).mono ?_
  rintro e w1 ⟨rfl, ⟨vl1, va1, hd1⟩, hl1, hf1⟩
  have hs1 := hf1.blk HS.out rfl N1.out
  have ht1 := hf1.blk HT.out rfl N3.out.symm
  have HD1 := Lib.hid hd1
  have HL1 := Lib.hid hl1
  have HF1 := Lib.hid hf1
  have HS1 := Lib.hid hs1
  have HT1 := Lib.hid ht1
  clear hd1 hl1 hf1 hs1 ht1
  go_wp2_with fail
  refine (over_any (l.acq d).1 HS1.out HT1.out).mono ?_
  rintro e w2 ⟨rfl, rfl⟩
  go_wp2_with fail
  go_ret
  refine ⟨rfl, ⟨_, _, HD1.out.off HS1.out rfl 1 _, ?_, HL1.out.far N1.out.symm _, HT1.out.far (HT1.out.blk_ne HS1.out (by decide)) _⟩, Fr.sets (HF1.out.mono (fun b e => Or.inr (Or.inl e))) hB1 _ _⟩
  have := HS1.out.set_ 1 (.bool (l.acq d).1)
  rw [show (Ts.step ⟨ov, .acq, l, al, sh, d⟩).lk.kd = 2 from (lk_kd_acq l d).trans HK.out]
  exact this
set_option maxRecDepth 100000 in
set_option maxHeartbeats 4000000 in
theorem acqReady_2 (hk : t.lk.kd = 2) (ha : t.task = .acq) (h : TsM W B L s lb tb vl va t) (hd : Dsk W db L) (hB1 : B ≤ s) (hB2 : B ≤ lb) (hn : t.d.log.length ≤ 100000) :
    Calls Try.prog 86 #[.pointer (some ⟨tb, 0, none⟩), .pointer (some ⟨db, 0, none⟩)] W (TsR B L s lb tb W t.ready) := by
  obtain ⟨ov, p, l, al, sh, d⟩ := t
  dsimp only at hk ha hn
  subst ha
  have hs0 : Blk W s 101 [.iface 145 (.pointer (some ⟨lb, 0, none⟩)), .bool al, .bool sh] := by
    have := h.se
    dsimp only [seL] at this
    rw [hk] at this
    exact this
  have ht0 : Blk W tb 107 [.pointer (some ⟨s, 0, none⟩)] := h.tk
  have s0 : W.cell? ⟨s, 0, none⟩ = some (.iface 145 (.pointer (some ⟨lb, 0, none⟩))) := hs0.cell rfl
  have t0 : W.cell? ⟨tb, 0, none⟩ = some (.pointer (some ⟨s, 0, none⟩)) := ht0.cell rfl
  have HD : Hid (DM W B L vl va d) := h.dm
  have HDk := Lib.hid hd
  have HL : Hid (LkB W lb l) := h.lk
  have HS := Lib.hid hs0
  have HT := Lib.hid ht0
  have HK := Lib.hid hk
  have N1 := Lib.hid h.ne1
  have N3 := Lib.hid h.ne3
  clear h hd hs0 ht0 hk
  go_enter Try.func86, Try.ntmps86
  go_wp2_with fail
  refine (place_beg (by simp [HK.out]) HD.out HL.out hB2 _).mono ?_
  rintro e w1 ⟨rfl, ⟨vl1, va1, hd1⟩, hl1, hf1⟩
  have hs1 := hf1.blk HS.out rfl N1.out
  have ht1 := hf1.blk HT.out rfl N3.out.symm
  have HD1 := Lib.hid hd1
  have HL1 := Lib.hid hl1
  have HF1 := Lib.hid hf1
  have HS1 := Lib.hid hs1
  have HT1 := Lib.hid ht1
  clear hd1 hl1 hf1 hs1 ht1
  go_wp2_with fail
  refine (over_any (l.beg d).1 HS1.out HT1.out).mono ?_
  rintro e w2 ⟨rfl, rfl⟩
  go_wp2_with fail
  go_ret
  refine ⟨rfl, ⟨_, _, HD1.out.off HS1.out rfl 1 _, ?_, HL1.out.far N1.out.symm _, HT1.out.far (HT1.out.blk_ne HS1.out (by decide)) _⟩, Fr.sets (HF1.out.mono (fun b e => Or.inr (Or.inl e))) hB1 _ _⟩
  have := HS1.out.set_ 1 (.bool (l.beg d).1)
  rw [show (Ts.ready ⟨ov, .acq, l, al, sh, d⟩).lk.kd = 2 from (lk_kd_beg l d).trans HK.out]
  exact this
set_option maxRecDepth 100000 in
set_option maxHeartbeats 4000000 in
theorem relStep_2 (hk : t.lk.kd = 2) (ha : t.task = .rel) (h : TsM W B L s lb tb vl va t) (hd : Dsk W db L) (hB1 : B ≤ s) (hB2 : B ≤ lb) (hn : t.d.log.length ≤ 100000) :
    Calls Try.prog 90 #[.pointer (some ⟨tb, 0, none⟩), .pointer (some ⟨db, 0, none⟩)] W (TsR B L s lb tb W t.step) := by
  obtain ⟨ov, p, l, al, sh, d⟩ := t
  dsimp only at hk ha hn
  subst ha
  have hs0 : Blk W s 101 [.iface 145 (.pointer (some ⟨lb, 0, none⟩)), .bool al, .bool sh] := by
    have := h.se
    dsimp only [seL] at this
    rw [hk] at this
    exact this
  have ht0 : Blk W tb 110 [.pointer (some ⟨s, 0, none⟩)] := h.tk
  have s0 : W.cell? ⟨s, 0, none⟩ = some (.iface 145 (.pointer (some ⟨lb, 0, none⟩))) := hs0.cell rfl
  have t0 : W.cell? ⟨tb, 0, none⟩ = some (.pointer (some ⟨s, 0, none⟩)) := ht0.cell rfl
  have HD : Hid (DM W B L vl va d) := h.dm
  have HDk := Lib.hid hd
  have HL : Hid (LkB W lb l) := h.lk
  have HS := Lib.hid hs0
  have HT := Lib.hid ht0
  have HK := Lib.hid hk
  have N1 := Lib.hid h.ne1
  have N3 := Lib.hid h.ne3
  clear h hd hs0 ht0 hk
  go_enter Try.func90, Try.ntmps90
  go_wp2_with fail
  refine (tick_rel HK.out HD.out HDk.out HL.out hB2 hn).mono ?_
  rintro e w1 ⟨rfl, ⟨vl1, va1, hd1⟩, hl1, hf1⟩
  have hs1 := hf1.blk HS.out rfl N1.out
  have ht1 := hf1.blk HT.out rfl N3.out.symm
  have t0' : w1.cell? ⟨tb, 0, none⟩ = some (.pointer (some ⟨s, 0, none⟩)) := ht1.cell rfl
  have s1' : w1.cell? ⟨s, 1, none⟩ = some (.bool al) := hs1.cell rfl
  have f1' := hs1.frozen 1
  have HD1 := Lib.hid hd1
  have HL1 := Lib.hid hl1
  have HF1 := Lib.hid hf1
  have HS1 := Lib.hid hs1
  have HT1 := Lib.hid ht1
  clear hd1 hl1 hf1 hs1 ht1
  go_wp2_with fail
  go_ret
  refine ⟨rfl, ⟨_, _, HD1.out.off HS1.out rfl 1 _, ?_, HL1.out.far N1.out.symm _, HT1.out.far (HT1.out.blk_ne HS1.out (by decide)) _⟩, Fr.sets (HF1.out.mono (fun b e => Or.inr (Or.inl e))) hB1 _ _⟩
  have := HS1.out.set_ 1 (.bool (!(l.rel d).1))
  rw [show (Ts.step ⟨ov, .rel, l, al, sh, d⟩).lk.kd = 2 from (lk_kd_rel l d).trans HK.out]
  exact this
end
end Go.Proofs.Ytjnmlgfkiebkgaa
