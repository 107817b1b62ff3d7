/-
  The desk: memory.Memory's Size, has, note, Load, Store, Swap, Now; machine.Desk's open, Now, Point, Load, Store, Swap, Answer.
-/
import Derived.Test.YtjnmlgfkiebkgaaLmm
import Derived.RegionTactic
import Derived.Deep.CutBlock
import Derived.Deep.DeepCutAuto
import Derived.Deep.RegionLaw
import Derived.BigQuiet
import Derived.Deep.LoopGhost
import Derived.WalkSpells
import Derived.Deep.RegionWith
namespace Go.Proofs.Ytjnmlgfkiebkgaa
open Go.RowKit
set_option linter.unusedVariables false
set_option linter.unusedSimpArgs false

theorem info_ac : (Try.prog.info? 66).map (fun i => (i.zero, i.size, i.bytes)) = some (some (.agg #[.int .i64 0, .int .i64 0, .int .i64 0, .int .i64 0, .int .u64 0, .int .u64 0, .int .u64 0]), 7, 56) := by kernel_rfl
theorem info_w : (Try.prog.info? 34).map (fun i => (i.zero, i.size, i.bytes)) = some (some (.int .u64 0), 1, 8) := by kernel_rfl
theorem ac_one (a : Ac) : ∀ u ∈ acL a, u.oneCell' = true := by intro u hu; simp [acL] at hu; rcases hu with h | h | h | h | h | h | h <;> subst h <;> rfl
theorem w_one (x : Int) : ∀ u ∈ [Value.int .u64 x], u.oneCell' = true := by intro u hu; simp at hu; subst hu; rfl

/-- what a desk's operation answers, and leaves -/
def DR (B : Nat) (L : DL) (W : World) (v : Value) (d : Dk) (e : Ending) (w' : World) : Prop := e = .returned v ∧ (∃ vl va, DM w' B L vl va d) ∧ Fr (fun _ => False) B W w'

set_option maxRecDepth 100000 in
theorem size_any {y g N k : Nat} (w : World) (h0 : w.cell? ⟨y, 0, none⟩ = some (.slice (some ⟨g, 0, none⟩) N k)) :
    Calls Try.prog 100 #[.pointer (some ⟨y, 0, none⟩)] w fun e w' => e = .returned (.int .i64 N) ∧ w' = w := by
  go_enter Try.func100, Try.ntmps100
  go_wp2_with fail
  go_ret
  exact ⟨rfl, rfl⟩
set_option maxRecDepth 100000 in
theorem has_any {y g N k : Nat} (w : World) (h0 : w.cell? ⟨y, 0, none⟩ = some (.slice (some ⟨g, 0, none⟩) N k)) (a : Int) :
    Calls Try.prog 101 #[.pointer (some ⟨y, 0, none⟩), .int .i64 a] w fun e w' => e = .returned (.bool (decide (0 ≤ a) && decide (a < N))) ∧ w' = w := by
  cases h : decide (0 ≤ a) with
  | false =>
    go_enter Try.func101, Try.ntmps101
    go_wp2_with fail
    go_ret
    exact ⟨rfl, rfl⟩
  | true =>
    go_enter Try.func101, Try.ntmps101
    go_wp2_with fail
    refine (size_any _ h0).mono ?_
    rintro e w1 ⟨rfl, rfl⟩
    go_wp2_with fail
    go_ret
    exact ⟨by simp, rfl⟩

set_option maxRecDepth 100000 in
set_option maxHeartbeats 4000000 in
theorem note_any {W : World} {B : Nat} {L : DL} {vl va : Value} {d : Dk} (h : DM W B L vl va d) (hn : d.log.length ≤ 100000) (a : Ac) (m x : Int) :
    Calls Try.prog 102 #[.pointer (some ⟨L.y, 0, none⟩), .agg #[.int .i64 m, .int .i64 a.th, .int .i64 a.kd, .int .i64 a.ad, .int .u64 a.old, .int .u64 a.new, .int .u64 a.saw], .int .u64 x] W
      (DR B L W (.tuple #[]) { d with log := d.log ++ [{ a with mv := d.now }] }) := by
  obtain ⟨i1, hi1, hi1z, hi1s, hi1b⟩ := info_parts info_ac
  obtain ⟨i2, hi2, hi2z, hi2s, hi2b⟩ := info_parts info_w
  obtain ⟨A, k, hvl, hA1, hA2⟩ := own_form h.lo
  obtain ⟨na, xa, hna, hoa⟩ := h.ah
  obtain ⟨Aa, ka, hva, hAa1, hAa2⟩ := own_form hoa
  subst hvl hva
  have hlt := h.yb.lt
  have hsz := h.size
  have hne1 := own_blk_ne h.lo h.yb (by decide)
  have y1 : W.cell? ⟨L.y, 1, none⟩ = some (.slice A d.log.length k) := h.yb.cell rfl
  have y2 : W.cell? ⟨L.y, 2, none⟩ = some (.slice Aa na ka) := h.yb.cell rfl
  have y3 : W.cell? ⟨L.y, 3, none⟩ = some (.int .i64 d.now) := h.yb.cell rfl
  have HD := Lib.hid h
  have HN := Lib.hid hna
  have HO := Lib.hid hoa
  have HE := Lib.hid hne1
  clear h hna hoa hne1
  go_enter Try.func102, Try.ntmps102
  go_upto_region 2 with fail
  have hb2 : Below W.heap.size W (W.alloc (.cells #[.int .i64 d.now, .int .i64 a.th, .int .i64 a.kd, .int .i64 a.ad, .int .u64 a.old, .int .u64 a.new, .int .u64 a.saw] 66)) := (Below.refl _ _).alloc (Nat.le_refl _) _
  have hk2 := Blk.new W 66 (acL { a with mv := d.now })
  generalize hW2 : (W.alloc (.cells #[.int .i64 d.now, .int .i64 a.th, .int .i64 a.kd, .int .i64 a.ad, .int .u64 a.old, .int .u64 a.new, .int .u64 a.saw] 66)) = W2 at hb2 ⊢
  have hk2 : Blk W2 W.heap.size 66 (acL { a with mv := d.now }) := by rw [← hW2]; exact hk2
  clear hW2
  have hs2 := hb2.size
  have HD2 := Lib.hid (HD.out.on hb2)
  have HB2 := Lib.hid hb2
  have q0 : W2.cell? ⟨W.heap.size, 0, none⟩ = some (.int .i64 d.now) := hk2.cell rfl
  have q1 : W2.cell? ⟨W.heap.size, 1, none⟩ = some (.int .i64 a.th) := hk2.cell rfl
  have q2 : W2.cell? ⟨W.heap.size, 2, none⟩ = some (.int .i64 a.kd) := hk2.cell rfl
  have q3 : W2.cell? ⟨W.heap.size, 3, none⟩ = some (.int .i64 a.ad) := hk2.cell rfl
  have q4 : W2.cell? ⟨W.heap.size, 4, none⟩ = some (.int .u64 a.old) := hk2.cell rfl
  have q5 : W2.cell? ⟨W.heap.size, 5, none⟩ = some (.int .u64 a.new) := hk2.cell rfl
  have q6 : W2.cell? ⟨W.heap.size, 6, none⟩ = some (.int .u64 a.saw) := hk2.cell rfl
  have z1 : W2.cell? ⟨L.y, 1, none⟩ = some (.slice A d.log.length k) := HD2.out.yb.cell rfl
  have z2 : W2.cell? ⟨L.y, 2, none⟩ = some (.slice Aa na ka) := HD2.out.yb.cell rfl
  have hl2 := HD2.out.yb.lt
  have hlx := hk2.lt
  have HO2 : Hid (W2.drew.ownsRow B 66 7 (.slice A d.log.length k) d.log.length (acVals d.log)) := HD2.out.lo
  have HY2 : Hid (Blk W2.drew L.y 170 [.slice (some ⟨L.wb, 0, none⟩) d.words.length L.wk, .slice A d.log.length k, .slice Aa na ka, .int .i64 d.now]) := HD2.out.yb
  clear y1 y2 y3 hb2 hk2 hlt
  go_region_law (refine step_app _ (by rfl) _ _ 36 (by rfl) B 66 i1 (.agg #[.int .i64 0, .int .i64 0, .int .i64 0, .int .i64 0, .int .u64 0, .int .u64 0, .int .u64 0]) 7 56 Try.underlying36 hi1 hi1z hi1s hi1b rfl (by decide) (.slice A d.log.length k) d.log.length (acVals d.log) (by rfl) (HO2.out.alloc _) (W2.heap.size + 1) (some ⟨W2.heap.size, 0, none⟩) 1 1 (acL { a with mv := d.now }) (by rfl) (((Blk.new W2.drew 66 _).sl rfl).up (by simp)) (ac_one _) (d.log.length + 1) rfl _ rfl _ rfl (by simp only [maxLen]; omega) (by omega) (by simp <;> omega) ?_
                 intro A10 k10 W10 hown10 hg10 hat10 hk10 hk11
                 have hy9 := (HY2.out.alloc (.cells (acL { a with mv := d.now }).toArray 66)).grown hg10 HE.out
                 have d3 : W10.cell? ⟨L.y, 1, none⟩ = some (.slice A d.log.length k) := hy9.cell rfl
                 have f3 : W10.frozen? ⟨L.y, 1, none⟩ = false := hy9.frozen 1
                 have hb9 : Below W2.heap.size W2 (W2.drew.alloc (.cells (acL { a with mv := d.now }).toArray 66)) := (Below.refl _ _).drew.alloc (Nat.le_refl _) _
                 have HD9 := Lib.hid (HD2.out.on hb9)
                 have HD3 := Lib.hid (HD9.out.logged { a with mv := d.now } hg10 hown10)
                 have HF3 := Lib.hid (HD9.out.loggedF ((Fr.of_below (X := fun _ => False) HB2.out hsz).below hb9 (by omega)) hg10 (.slice A10 (d.log.length + 1) k10))
                 have HO3 := Lib.hid (HD9.out.logged2 (ha := own_kind HO.out (fun b o h1 _ => ((HB2.out.trans (hb9.mono HB2.out.size)).block b (Array.getElem?_eq_some_iff.1 h1).1).trans h1) rfl) hg10 (v' := .slice A10 (d.log.length + 1) k10))
                 clear hg10 hown10 hat10 hk10 hk11 hy9 hb9)
  all_goals (
    generalize W10.setCell ⟨L.y, 1, none⟩ (.slice A10 (d.log.length + 1) k10) = W3 at HD3 HF3 HO3 ⊢
    clear z1 z2 q0 q1 q2 q3 q4 q5 q6 d3 f3
    have z2 : W3.cell? ⟨L.y, 2, none⟩ = some (.slice Aa na ka) := HD3.out.yb.cell rfl
    have hs3 := HD3.out.size
    have hl3 := HD3.out.yb.lt
    have hnb := HN.out
    have hw3 : L.wb + 1 ≤ W3.heap.size := HD3.out.wr.lt
    have HE3 := Lib.hid (own_blk_ne HO3.out HD3.out.yb (by decide))
    go_wp2_with (at_builtin; go_must (refine wpList_app _ rfl _ _ 27 rfl (L.wb + 1) 34 i2 (.int .u64 0) 1 8 Try.underlying27 hi2 hi2z hi2s hi2b rfl (by decide) (.slice Aa na ka) na xa rfl (HO3.out.alloc _) (W3.heap.size + 1) (some ⟨W3.heap.size, 0, none⟩) 1 1 [.int .u64 x] rfl (((Blk.new W3 34 _).sl rfl).up (by simp)) (w_one x) (na + 1) rfl _ rfl _ rfl (by simp only [maxLen]; omega) (by omega) (by simp; omega) ?_; intro A7 k7 w7 hown7 hg7 hat7 hk7 hk8; have hy9 := ((HD3.out.yb.alloc (.cells #[.int .u64 x] 34)).grown hg7 HE3.out); have c9 : w7.cell? ⟨L.y, 2, none⟩ = some (.slice Aa na ka) := hy9.cell rfl; have f9 := hy9.frozen 2))
    go_end0
    have hb9 : Below W3.heap.size W3 (W3.alloc (.cells #[.int .u64 x] 34)) := (Below.refl _ _).alloc (Nat.le_refl _) _
    have HD9 := HD3.out.on hb9
    have ha9 := HO3.out.alloc (.cells #[.int .u64 x] 34)
    exact ⟨rfl, ⟨_, _, HD9.beside ha9 (by simp; omega) hg7 hown7⟩, HD9.besideF ha9 (HF3.out.below hb9 hs3) hg7 _⟩)

theorem Rw.mine {W : World} {g sz n k : Nat} {t : TypeId} {cs : List Value} (h : Rw W g t sz n k cs) (ht : mineT t = true) : ∀ o : Obj, W.heap[g]? = some o → mine o = true := by
  intro o ho
  obtain ⟨_, c, h1, _⟩ := h
  unfold Blk at h1
  rw [h1] at ho
  injection ho with ho
  subst ho
  exact ht
theorem Blk.mine {W : World} {g : Nat} {t : TypeId} {cs : List Value} (h : Blk W g t cs) (ht : mineT t = true) : ∀ o : Obj, W.heap[g]? = some o → mine o = true := by
  intro o ho
  unfold Blk at h
  rw [h] at ho
  injection ho with ho
  subst ho
  exact ht
/-- a desk's words at an address -/
theorem u64s_get {l : List Int} {a : Int} (h0 : 0 ≤ a) (h1 : a < l.length) : (u64s l)[a.toNat]? = some (.int .u64 (l[a.toNat]?.getD 0)) := by
  unfold u64s
  rw [List.getElem?_map, List.getElem?_eq_getElem (show a.toNat < l.length by omega)]
  rfl
theorem opn_true {d : Dk} {a : Int} (h : d.opn a = true) : d.used = false ∧ 0 ≤ a ∧ a < d.words.length := by
  simp only [Dk.opn, Bool.and_eq_true, decide_eq_true_eq, Bool.not_eq_true'] at h
  exact h

set_option maxRecDepth 100000 in
set_option maxHeartbeats 4000000 in
theorem memload_any {W : World} {B : Nat} {L : DL} {vl va : Value} {d : Dk} (h : DM W B L vl va d) (hn : d.log.length ≤ 100000) (a : Int) (h0 : 0 ≤ a) (h1 : a < d.words.length) :
    Calls Try.prog 98 #[.pointer (some ⟨L.y, 0, none⟩), .int .i64 d.th, .int .i64 a] W
      (DR B L W (.tuple #[.int .u64 (d.word a), .int .i64 0]) { d with log := d.log ++ [⟨d.now, d.th, 1, a, 0, 0, d.word a⟩] }) := by
  obtain ⟨q, rfl⟩ : ∃ q : Nat, a = q := ⟨a.toNat, by omega⟩
  have c0 : W.cell? ⟨L.y, 0, none⟩ = some (.slice (some ⟨L.wb, 0, none⟩) d.words.length L.wk) := h.yb.cell rfl
  have cw : W.cell? ⟨L.wb, q, none⟩ = some (.int .u64 (d.word q)) := h.wr.cell (u64s_get h0 h1)
  have hq : q < d.words.length := by omega
  have HD := Lib.hid h
  have e1 : decide ((0 : Int) ≤ q) = true := by simp
  have e2 : decide ((q : Int) < d.words.length) = true := by simp; omega
  clear h
  go_enter Try.func98, Try.ntmps98
  go_wp2_with fail
  refine (has_any _ c0 q).mono ?_
  rw [e1, e2]
  rintro e w1 ⟨rfl, rfl⟩
  go_wp2_with fail
  refine (note_any HD.out hn ⟨0, d.th, 1, q, 0, 0, d.word q⟩ 0 (d.word q)).mono ?_
  rintro e w1 ⟨rfl, hd, hf⟩
  go_wp2_with fail
  go_ret2
  exact ⟨rfl, hd, hf⟩

set_option maxRecDepth 100000 in
set_option maxHeartbeats 4000000 in
theorem memstore_any {W : World} {B : Nat} {L : DL} {vl va : Value} {d : Dk} (h : DM W B L vl va d) (hn : d.log.length ≤ 100000) (a : Int) (x : Int) (h0 : 0 ≤ a) (h1 : a < d.words.length) :
    Calls Try.prog 107 #[.pointer (some ⟨L.y, 0, none⟩), .int .i64 d.th, .int .i64 a, .int .u64 x] W
      (DR B L W (.int .i64 0) { d with log := d.log ++ [⟨d.now, d.th, 2, a, 0, x, 0⟩], words := d.words.set a.toNat x }) := by
  obtain ⟨q, rfl⟩ : ∃ q : Nat, a = q := ⟨a.toNat, by omega⟩
  have c0 : W.cell? ⟨L.y, 0, none⟩ = some (.slice (some ⟨L.wb, 0, none⟩) d.words.length L.wk) := h.yb.cell rfl
  have cw : W.cell? ⟨L.wb, q, none⟩ = some (.int .u64 (d.word q)) := h.wr.cell (u64s_get h0 h1)
  have hq : q < d.words.length := by omega
  have HD := Lib.hid h
  have e1 : decide ((0 : Int) ≤ q) = true := by simp
  have e2 : decide ((q : Int) < d.words.length) = true := by simp; omega
  have h0' := Lib.hid h0
  have h1' := Lib.hid h1
  clear h h0 h1
  go_enter Try.func107, Try.ntmps107
  go_wp2_with fail
  refine (has_any _ c0 q).mono ?_
  rw [e1, e2]
  rintro e w1 ⟨rfl, rfl⟩
  go_wp2_with fail
  refine (note_any HD.out hn ⟨0, d.th, 2, q, 0, x, 0⟩ 0 (d.word q)).mono ?_
  rintro e w1 ⟨rfl, ⟨vl', va', hd⟩, hf⟩
  have c0' : w1.cell? ⟨L.y, 0, none⟩ = some (.slice (some ⟨L.wb, 0, none⟩) d.words.length L.wk) := hd.yb.cell rfl
  have cw' : w1.cell? ⟨L.wb, q, none⟩ = some (.int .u64 (d.word q)) := hd.wr.cell (u64s_get h0'.out h1'.out)
  have fw' := hd.wr.frozen q
  have HD' := Lib.hid hd
  have HF' := Lib.hid hf
  clear hd hf c0 cw
  go_wp2_with fail
  go_ret
  refine ⟨rfl, ⟨vl', va', ?_⟩, HF'.out.setCell HD'.out.bw (Or.inr (fun o ho => ?_)) _⟩
  · exact HD'.out.word q x
  · exact HD'.out.wr.mine rfl o ho

set_option maxRecDepth 100000 in
set_option maxHeartbeats 4000000 in
theorem memswap_any {W : World} {B : Nat} {L : DL} {vl va : Value} {d : Dk} (h : DM W B L vl va d) (hn : d.log.length ≤ 100000) (a : Int) (x y : Int) (h0 : 0 ≤ a) (h1 : a < d.words.length) :
    Calls Try.prog 99 #[.pointer (some ⟨L.y, 0, none⟩), .int .i64 d.th, .int .i64 a, .int .u64 x, .int .u64 y] W
      (DR B L W (.tuple #[.int .u64 (d.word a), .bool (d.word a == x), .int .i64 0]) { d with log := d.log ++ [⟨d.now, d.th, 3, a, x, y, d.word a⟩], words := bif d.word a == x then d.words.set a.toNat y else d.words }) := by
  obtain ⟨q, rfl⟩ : ∃ q : Nat, a = q := ⟨a.toNat, by omega⟩
  have c0 : W.cell? ⟨L.y, 0, none⟩ = some (.slice (some ⟨L.wb, 0, none⟩) d.words.length L.wk) := h.yb.cell rfl
  have cw : W.cell? ⟨L.wb, q, none⟩ = some (.int .u64 (d.word q)) := h.wr.cell (u64s_get h0 h1)
  have hq : q < d.words.length := by omega
  have HD := Lib.hid h
  have e1 : decide ((0 : Int) ≤ q) = true := by simp
  have e2 : decide ((q : Int) < d.words.length) = true := by simp; omega
  have h0' := Lib.hid h0
  have h1' := Lib.hid h1
  clear h h0 h1
  go_enter Try.func99, Try.ntmps99
  go_wp2_with fail
  refine (has_any _ c0 q).mono ?_
  rw [e1, e2]
  rintro e w1 ⟨rfl, rfl⟩
  go_wp2_with fail
  refine (note_any HD.out hn ⟨0, d.th, 3, q, x, y, d.word q⟩ 0 (d.word q)).mono ?_
  rintro e w1 ⟨rfl, ⟨vl', va', hd⟩, hf⟩
  have c0' : w1.cell? ⟨L.y, 0, none⟩ = some (.slice (some ⟨L.wb, 0, none⟩) d.words.length L.wk) := hd.yb.cell rfl
  have cw' : w1.cell? ⟨L.wb, q, none⟩ = some (.int .u64 (d.word q)) := hd.wr.cell (u64s_get h0'.out h1'.out)
  have fw' := hd.wr.frozen q
  have HD' := Lib.hid hd
  have HF' := Lib.hid hf
  clear hd hf c0 cw
  cases hs : d.word q == x with
  | false =>
    have hs2 : (d.word q != x) = true := by simp [bne, hs]
    have HH := Lib.hid hs
    clear hs
    go_wp2_with fail
    go_ret3
    rw [HH.out]
    exact ⟨rfl, ⟨vl', va', HD'.out⟩, HF'.out⟩
  | true =>
    have hs2 : (d.word q != x) = false := by simp [bne, hs]
    have HH := Lib.hid hs
    clear hs
    go_wp2_with fail
    go_ret3
    rw [HH.out]
    exact ⟨rfl, ⟨vl', va', HD'.out.word q y⟩, HF'.out.setCell HD'.out.bw (Or.inr (HD'.out.wr.mine rfl)) _⟩

/-- where a desk is, and its bench -/
abbrev Dsk (W : World) (db : Nat) (L : DL) : Prop := Blk W db 166 [.pointer (some ⟨L.x, 0, none⟩)]

set_option maxRecDepth 100000 in
set_option maxHeartbeats 4000000 in
theorem open_no {W : World} {B db : Nat} {L : DL} {vl va : Value} {d : Dk} (h : DM W B L vl va d) (hd : Dsk W db L) (a : Int) (ho : d.opn a = false) :
    Calls Try.prog 97 #[.pointer (some ⟨db, 0, none⟩), .int .i64 a] W fun e w' => e = .returned (.bool false) ∧ w' = W := by
  have c0 : W.cell? ⟨L.y, 0, none⟩ = some (.slice (some ⟨L.wb, 0, none⟩) d.words.length L.wk) := h.yb.cell rfl
  have x0 : W.cell? ⟨L.x, 0, none⟩ = some (.pointer (some ⟨L.y, 0, none⟩)) := h.xb.cell rfl
  have x5 : W.cell? ⟨L.x, 5, none⟩ = some (.bool d.used) := h.xb.cell rfl
  have d0 : W.cell? ⟨db, 0, none⟩ = some (.pointer (some ⟨L.x, 0, none⟩)) := hd.cell rfl
  unfold Dk.opn at ho
  clear h hd
  cases hu : d.used with
  | true =>
    rw [hu] at x5
    clear ho hu
    go_enter Try.func97, Try.ntmps97
    go_wp2_with fail
    go_ret
    exact ⟨rfl, rfl⟩
  | false =>
    rw [hu] at x5 ho
    simp only [Bool.not_false, Bool.true_and] at ho
    cases h1 : decide (a < 0) with
    | true =>
      clear ho hu
      go_enter Try.func97, Try.ntmps97
      go_wp2_with fail
      go_ret
      exact ⟨rfl, rfl⟩
    | false =>
      have h2 : decide (0 ≤ a) = true := by simp at h1 ⊢; omega
      rw [h2, Bool.true_and] at ho
      have h3 : decide ((d.words.length : Int) ≤ a) = true := by simp at ho ⊢; omega
      have h4 := Lib.hid ho
      clear ho hu h2
      go_enter Try.func97, Try.ntmps97
      go_wp2_with fail
      refine (size_any _ c0).mono ?_
      rintro e w1 ⟨rfl, rfl⟩
      go_wp2_with fail
      go_ret
      exact ⟨rfl, rfl⟩
set_option maxRecDepth 100000 in
set_option maxHeartbeats 4000000 in
theorem open_yes {W : World} {B db : Nat} {L : DL} {vl va : Value} {d : Dk} (h : DM W B L vl va d) (hd : Dsk W db L) (a : Int) (ho : d.opn a = true) :
    Calls Try.prog 97 #[.pointer (some ⟨db, 0, none⟩), .int .i64 a] W (DR B L W (.bool true) { d with used := true }) := by
  have c0 : W.cell? ⟨L.y, 0, none⟩ = some (.slice (some ⟨L.wb, 0, none⟩) d.words.length L.wk) := h.yb.cell rfl
  have x0 : W.cell? ⟨L.x, 0, none⟩ = some (.pointer (some ⟨L.y, 0, none⟩)) := h.xb.cell rfl
  have x5 : W.cell? ⟨L.x, 5, none⟩ = some (.bool d.used) := h.xb.cell rfl
  have f5 := h.xb.frozen 5
  have d0 : W.cell? ⟨db, 0, none⟩ = some (.pointer (some ⟨L.x, 0, none⟩)) := hd.cell rfl
  have HD := Lib.hid h
  obtain ⟨hu, h1, h2⟩ := opn_true ho
  rw [hu] at x5
  have h3 : decide (a < 0) = false := by simp; omega
  have h4 : decide ((d.words.length : Int) ≤ a) = false := by simp; omega
  clear h hd ho hu h1 h2
  go_enter Try.func97, Try.ntmps97
  go_wp2_with fail
  refine (size_any _ c0).mono ?_
  rintro e w1 ⟨rfl, rfl⟩
  go_wp2_with fail
  go_ret
  exact ⟨rfl, ⟨_, _, HD.out.use true⟩, (Fr.refl _ _ _).setCell HD.out.bx (Or.inr (HD.out.xb.mine rfl)) _⟩
end Go.Proofs.Ytjnmlgfkiebkgaa
