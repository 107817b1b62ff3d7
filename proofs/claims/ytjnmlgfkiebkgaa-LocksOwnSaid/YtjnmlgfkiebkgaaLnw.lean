/-
  locks.rules and locks.New.
-/
import Derived.Test.YtjnmlgfkiebkgaaLnm
import Derived.Test.YtjnmlgfkiebkgaaTk
import Derived.Deep.CutBlock
import Derived.Deep.DeepCutAuto
import Derived.RegionTactic
namespace Go.Proofs.Ytjnmlgfkiebkgaa
open Go.RowKit
set_option linter.unusedVariables false
set_option linter.unusedSimpArgs false

/-- a thread's lock, in new memory -/
def RulR (k T : Int) (me : Nat) (w : World) (e : Ending) (w' : World) : Prop := ∃ lb, e = .returned (.iface (lkP k) (.pointer (some ⟨lb, 0, none⟩))) ∧ LkB w' lb (lk0 k T me) ∧ w.heap.size ≤ lb ∧ Below w.heap.size w w'
theorem new1_blk' (w : World) (o : Obj) (cs : List Value) (t : TypeId) : Blk ((w.alloc o).alloc (.cells cs.toArray t)) (w.heap.size + 1) t cs := by
  have := Blk.new (w.alloc o) t cs
  rwa [World.size_alloc] at this
theorem new2_blk (w : World) (o o' : Obj) (cs : List Value) (t : TypeId) : Blk (((w.alloc o).alloc o').alloc (.cells cs.toArray t)) (w.heap.size + 1 + 1) t cs := by
  have := Blk.new ((w.alloc o).alloc o') t cs
  rwa [World.size_alloc, World.size_alloc] at this
set_option maxRecDepth 100000 in
set_option maxHeartbeats 1000000 in
theorem rules_1 (T : Int) (me : Nat) (w : World) : Calls Try.prog 42 #[.agg #[.int .i64 T, .int .i64 1], .int .i64 me] w (RulR 1 T me w) := by
  go_enter Try.func42, Try.ntmps42
  go_wp2_with fail
  go_ret
  exact ⟨_, rfl, new2_blk _ _ _ _ _, by omega, (((Below.refl _ _).alloc (Nat.le_refl _) _).alloc (by simp) _).alloc (by simp; omega) _⟩
set_option maxRecDepth 100000 in
set_option maxHeartbeats 1000000 in
theorem rules_2 (T : Int) (me : Nat) (w : World) : Calls Try.prog 42 #[.agg #[.int .i64 T, .int .i64 2], .int .i64 me] w (RulR 2 T me w) := by
  go_enter Try.func42, Try.ntmps42
  go_wp2_with fail
  go_ret
  exact ⟨_, rfl, new2_blk _ _ _ _ _, by omega, (((Below.refl _ _).alloc (Nat.le_refl _) _).alloc (by simp) _).alloc (by simp; omega) _⟩
set_option maxRecDepth 100000 in
set_option maxHeartbeats 1000000 in
theorem rules_3 (T : Int) (me : Nat) (w : World) : Calls Try.prog 42 #[.agg #[.int .i64 T, .int .i64 3], .int .i64 me] w (RulR 3 T me w) := by
  go_enter Try.func42, Try.ntmps42
  go_wp2_with fail
  go_ret
  exact ⟨_, rfl, new2_blk _ _ _ _ _, by omega, (((Below.refl _ _).alloc (Nat.le_refl _) _).alloc (by simp) _).alloc (by simp; omega) _⟩
set_option maxRecDepth 100000 in
set_option maxHeartbeats 1000000 in
theorem rules_4 (T : Int) (me : Nat) (w : World) : Calls Try.prog 42 #[.agg #[.int .i64 T, .int .i64 4], .int .i64 me] w (RulR 4 T me w) := by
  go_enter Try.func42, Try.ntmps42
  go_wp2_with fail
  go_ret
  exact ⟨_, rfl, new2_blk _ _ _ _ _, by omega, (((Below.refl _ _).alloc (Nat.le_refl _) _).alloc (by simp) _).alloc (by simp; omega) _⟩
set_option maxRecDepth 100000 in
set_option maxHeartbeats 1000000 in
theorem rules_5 (T : Int) (me : Nat) (w : World) : Calls Try.prog 42 #[.agg #[.int .i64 T, .int .i64 5], .int .i64 me] w (RulR 5 T me w) := by
  go_enter Try.func42, Try.ntmps42
  go_wp2_with fail
  go_ret
  exact ⟨_, rfl, new2_blk _ _ _ _ _, by omega, (((Below.refl _ _).alloc (Nat.le_refl _) _).alloc (by simp) _).alloc (by simp; omega) _⟩
set_option maxRecDepth 100000 in
set_option maxHeartbeats 1000000 in
theorem rules_6 (T : Int) (me : Nat) (w : World) : Calls Try.prog 42 #[.agg #[.int .i64 T, .int .i64 6], .int .i64 me] w (RulR 6 T me w) := by
  go_enter Try.func42, Try.ntmps42
  go_wp2_with fail
  go_ret
  exact ⟨_, rfl, new2_blk _ _ _ _ _, by omega, (((Below.refl _ _).alloc (Nat.le_refl _) _).alloc (by simp) _).alloc (by simp; omega) _⟩
set_option maxRecDepth 100000 in
set_option maxHeartbeats 1000000 in
theorem rules_7 (T : Int) (me : Nat) (w : World) : Calls Try.prog 42 #[.agg #[.int .i64 T, .int .i64 7], .int .i64 me] w (RulR 7 T me w) := by
  go_enter Try.func42, Try.ntmps42
  go_wp2_with fail
  go_ret
  exact ⟨_, rfl, new2_blk _ _ _ _ _, by omega, (((Below.refl _ _).alloc (Nat.le_refl _) _).alloc (by simp) _).alloc (by simp; omega) _⟩

theorem info_ps : (Try.prog.info? 96).map (fun i => (i.zero, i.size, i.bytes)) = some (some (.pointer none), 1, 8) := by kernel_rfl
theorem law_opn : Go.Maps.Keyed Try.prog 57 := Go.Maps.int_keyed Try.underlying57
/-- one maker is put into the kit -/
theorem kit_ins {w : World} {b n : Nat} {D : DataW Value} (h : w.ownsMap Try.prog 57 heldR b n D) (hn : n < maxLen) (a : Int) (ha : (Lit.int .i64 a).wf = true) (v : Value) :
    ∃ w', (Instr.mapUpdate 118 (.map (some b)) (.int .i64 a) v).run Try.prog w = .ok () w' ∧ w'.ownsMap Try.prog 57 heldR b (n + 1) (D.put (.int .i64 a) (.held v)) ∧ w.grownBy w' (some b) := by
  obtain ⟨w', hrun, r1, r2⟩ := h.update law_opn Try.underlying118 hn (Go.Maps.keyOf_int_mk Try.underlying57 ha) (val := v) rfl
  exact ⟨w', hrun, r1, r2⟩
/-- the locks' seats, as far as they are laid -/
structure Lst (W : World) (B k T : Int) (j : Nat) (ls lb : Nat → Nat) (D : Nat) : Prop where
  blk : ∀ i, i < j → Blk W (ls i) 101 (seL (lb i) k false false) ∧ LkB W (lb i) (lk0 k T i) ∧ D ≤ ls i ∧ D ≤ lb i ∧ ls i < W.heap.size ∧ lb i < W.heap.size
  in1 : ∀ i i', i < i' → i' < j → ls i < ls i'
  in2 : ∀ i i', i < i' → i' < j → lb i < lb i'
theorem Lst.on {W W' : World} {B k T : Int} {j D : Nat} {ls lb : Nat → Nat} (h : Lst W B k T j ls lb D) (hb : Below W.heap.size W W') : Lst W' B k T j ls lb D :=
  ⟨fun i hi => by
    obtain ⟨a1, a2, a3, a4, a5, a6⟩ := h.blk i hi
    exact ⟨a1.below hb a5, Blk.below a2 hb a6, a3, a4, Nat.lt_of_lt_of_le a5 hb.size, Nat.lt_of_lt_of_le a6 hb.size⟩, h.in1, h.in2⟩
theorem Lst.off {W : World} {B k T : Int} {j D g : Nat} {ls lb : Nat → Nat} (h : Lst W B k T j ls lb D) {t : TypeId} {cs : List Value} (hg : Blk W g t cs) (h1 : t ≠ 101) (h2 : ∀ k, t ≠ lkT k) (i : Nat) (u : Value) : Lst (W.setCell ⟨g, i, none⟩ u) B k T j ls lb D :=
  ⟨fun i hi => by
    obtain ⟨a1, a2, a3, a4, a5, a6⟩ := h.blk i hi
    exact ⟨a1.far (a1.blk_ne hg h1.symm) _, Blk.far a2 (Blk.blk_ne a2 hg (h2 _).symm) _, a3, a4, by simpa using a5, by simpa using a6⟩, h.in1, h.in2⟩
/-- one seat more -/
theorem Lst.next {W : World} {B k T : Int} {j D q r : Nat} {ls lb : Nat → Nat} (h : Lst W B k T j ls lb D) (hq : Blk W q 101 (seL r k false false)) (hr : LkB W r (lk0 k T j)) (hD : D ≤ q) (hD' : D ≤ r) (n1 : ∀ i, i < j → ls i < q) (n2 : ∀ i, i < j → lb i < r) :
    Lst W B k T (j + 1) (fun i => if i = j then q else ls i) (fun i => if i = j then r else lb i) D := by
  refine ⟨fun i hi => ?_, fun i i' h1 h2 => ?_, fun i i' h1 h2 => ?_⟩
  · by_cases e : i = j
    · subst e
      rw [if_pos rfl, if_pos rfl]
      exact ⟨hq, hr, hD, hD', hq.lt, Blk.lt hr⟩
    · rw [if_neg e, if_neg e]
      exact h.blk i (by omega)
  · by_cases e : i' = j
    · rw [if_pos e, if_neg (by omega)]
      exact n1 i (by omega)
    · rw [if_neg e, if_neg (by omega)]
      exact h.in1 i i' h1 (by omega)
  · by_cases e : i' = j
    · rw [if_pos e, if_neg (by omega)]
      exact n2 i (by omega)
    · rw [if_neg e, if_neg (by omega)]
      exact h.in2 i i' h1 (by omega)
theorem Lst.low {W : World} {B k T : Int} {j D : Nat} {ls lb : Nat → Nat} (h : Lst W B k T j ls lb D) : (∀ i, i < j → ls i < W.heap.size) ∧ (∀ i, i < j → lb i < W.heap.size) := ⟨fun i hi => (h.blk i hi).2.2.2.2.1, fun i hi => (h.blk i hi).2.2.2.2.2⟩
theorem thVals0 (M : ML) (l : List Th) (i : Nat) (h : ∀ q ∈ l, q.task = none ∧ q.ready = false ∧ q.last = -1 ∧ q.ak = 0 ∧ q.av = 0) : thVals M i l = msV l.length := by
  induction l generalizing i with
  | nil => rfl
  | cons q l ih =>
    obtain ⟨h1, h2, h3, h4, h5⟩ := h q (by simp)
    rw [thVals, ih (i + 1) (fun x hx => h x (by simp [hx]))]
    unfold thL tkV
    rw [h1, h2, h3, h4, h5]
    unfold msV
    rw [List.length_cons, List.replicate_succ, List.flatten_cons]
def ptrL (ls : Nat → Nat) (j T : Nat) : List Value := (List.range j).map (fun i => .pointer (some ⟨ls i, 0, none⟩)) ++ List.replicate (T - j) (.pointer none)
theorem ptrL_set {ls : Nat → Nat} {j T q : Nat} (h : j < T) : (ptrL ls j T).set j (.pointer (some ⟨q, 0, none⟩)) = ptrL (fun i => if i = j then q else ls i) (j + 1) T := by
  unfold ptrL
  rw [set_fill (by simp) h]
  congr 1
  rw [List.range_succ, List.map_append]
  congr 1
  · apply List.map_congr_left
    intro i hi
    have := List.mem_range.1 hi
    dsimp only
    rw [if_neg (by omega)]
  · simp

set_option maxRecDepth 100000 in
set_option maxHeartbeats 4000000 in
theorem lnew_any (k : Int) (T : Nat) (hk : rangeB T k 1 7 = true) (hT : 1 ≤ T ∧ T ≤ 16) (hw : ∀ w, Calls Try.prog 11 #[.agg #[.int .i64 T, .int .i64 k]] w (WdsR (lkWords k T) okV w)) (hl : 1 ≤ (lkWords k T).length ∧ (lkWords k T).length ≤ 8192)
    (hr : ∀ (me : Nat) w, Calls Try.prog 42 #[.agg #[.int .i64 T, .int .i64 k], .int .i64 me] w (RulR k T me w)) (w : World) :
    Calls Try.prog 27 #[.agg #[.int .i64 T, .int .i64 k]] w (fun e w' => ∃ M, e = .returned (.tuple #[.pointer (some ⟨M.x, 0, none⟩), .int .i64 0]) ∧ MM w' w.heap.size M (mc0 k T) ∧ Below w.heap.size w w') := by
  have hmm := @run_makeMap Try.prog
  have hmk : ∀ W : World, (Instr.makeSlice 95 (.int .i64 T) (.int .i64 T)).run Try.prog W = .ok (.slice (some ⟨W.heap.size, 0, none⟩) T T) (W.alloc (.cells (madeCells #[.pointer none] T) 96)) := by
    intro W
    exact run_make_row' (P := Try.prog) 95 96 (.pointer none) 8 Try.underlying95 info_ps rfl .i64 .i64 T (by omega) (by omega) W
  have HW := Lib.hid hw
  have HR := Lib.hid hr
  have HK := Lib.hid hk
  have hT1 := hT.1
  have hT2 := hT.2
  clear hw hr hk
  go_enter Try.func27, Try.ntmps27
  go_wp2_with fail
  refine (HW.out _).mono ?_
  rintro e w1 ⟨gw, rfl, hw1, hgw, hb1⟩
  have HB1 : Hid (Below w.heap.size w w1) := ((Below.refl _ _).alloc (Nat.le_refl _) _).trans (hb1.mono (by simp))
  have HC1 : Hid (Blk w1 w.heap.size 24 [.int .i64 T, .int .i64 k]) := (Blk.new w 24 [.int .i64 T, .int .i64 k]).below hb1 (by simp)
  have HG1 := Lib.hid hw1
  have c0 : w1.cell? ⟨w.heap.size, 0, none⟩ = some (.int .i64 T) := HC1.out.cell rfl
  have hgs : w.heap.size < gw := by have := hgw; simp at this; omega
  clear hb1 hw1 hgw
  go_upto_region 5 with fail
  have hz1 := HB1.out.size
  have hG : Hid (Blk ((w1.alloc (.cells (madeCells #[.pointer none] T) 96)).alloc (.cells #[.slice (some ⟨w1.heap.size, 0, none⟩) T T] 95)) w1.heap.size 96 (ptrL (fun _ => 0) 0 T)) := by
    have := (Blk.new w1 96 (List.replicate T (.pointer none))).alloc (.cells #[.slice (some ⟨w1.heap.size, 0, none⟩) T T] 95)
    rw [madeCells_one]
    unfold ptrL
    refine Lib.hid ?_
    simpa using this
  have hS : Hid (Blk ((w1.alloc (.cells (madeCells #[.pointer none] T) 96)).alloc (.cells #[.slice (some ⟨w1.heap.size, 0, none⟩) T T] 95)) (w1.heap.size + 1) 95 [.slice (some ⟨w1.heap.size, 0, none⟩) T T]) := new1_blk' _ _ _ _
  have hC : Hid (Blk ((w1.alloc (.cells (madeCells #[.pointer none] T) 96)).alloc (.cells #[.slice (some ⟨w1.heap.size, 0, none⟩) T T] 95)) w.heap.size 24 [.int .i64 T, .int .i64 k]) := (HC1.out.alloc _).alloc _
  have hGw : Hid (Blk ((w1.alloc (.cells (madeCells #[.pointer none] T) 96)).alloc (.cells #[.slice (some ⟨w1.heap.size, 0, none⟩) T T] 95)) gw 34 (u64s (lkWords k T))) := (HG1.out.alloc _).alloc _
  have hB : Hid (Below w.heap.size w ((w1.alloc (.cells (madeCells #[.pointer none] T) 96)).alloc (.cells #[.slice (some ⟨w1.heap.size, 0, none⟩) T T] 95))) := (HB1.out.alloc hz1 _).alloc (by rw [World.size_alloc]; omega) _
  generalize (w1.alloc (.cells (madeCells #[.pointer none] T) 96)).alloc (.cells #[.slice (some ⟨w1.heap.size, 0, none⟩) T T] 95) = w2 at hG hS hC hGw hB ⊢
  obtain ⟨lg, hlg⟩ : ∃ lg, lg = w1.heap.size := ⟨_, rfl⟩
  have hlgB : w.heap.size ≤ lg := by rw [hlg]; exact hz1
  rw [← hlg] at hG hS ⊢
  clear HB1 HC1 HG1 c0 hmk hz1 hlg
  have s0 : w2.cell? ⟨lg + 1, 0, none⟩ = some (.slice (some ⟨lg, 0, none⟩) T T) := hS.out.cell rfl
  go_wp2_with fail
  clear s0
  go_loopg [21] T (fun gk i wr => ∃ (j : Nat) (ls lb : Nat → Nat), j + gk = T ∧ i = .int .i64 j ∧ Hid (Below w.heap.size w wr) ∧ Hid (Blk wr (lg + 1) 95 [.slice (some ⟨lg, 0, none⟩) T T]) ∧ Hid (Blk wr w.heap.size 24 [.int .i64 T, .int .i64 k]) ∧ Hid (Blk wr gw 34 (u64s (lkWords k T))) ∧ Hid (Blk wr lg 96 (ptrL ls j T)) ∧ Hid (Lst wr 0 k T j ls lb w.heap.size))
  case atStart => exact ⟨0, fun _ => 0, fun _ => 0, by omega, rfl, hB, hS, hC, hGw, hG, ⟨fun i hi => by omega, fun i i' h1 h2 => by omega, fun i i' h1 h2 => by omega⟩⟩
  case round =>
    clear hG hS hC hGw hB
    obtain ⟨j, ls, lb, hj, rfl, hB, hS, hC, hGw, hG, hL⟩ := hrel
    by_cases hlt : j < T
    · have e1 : (j : Int) < T := by omega
      have e0 : (0 : Int) ≤ j := by omega
      have s0 : wr.cell? ⟨lg + 1, 0, none⟩ = some (.slice (some ⟨lg, 0, none⟩) T T) := hS.out.cell rfl
      have c0 : wr.cell? ⟨w.heap.size, 0, none⟩ = some (.int .i64 T) := hC.out.cell rfl
      have c1 : wr.cell? ⟨w.heap.size, 1, none⟩ = some (.int .i64 k) := hC.out.cell rfl
      have hzr := hB.out.size
      go_upto_region 8 with fail
      refine wp_region_held_drew (S := fun W => W.cell? ⟨lg + 1, 0, none⟩ = some (.slice (some ⟨lg, 0, none⟩) T T) ∧ W.cell? ⟨w.heap.size, 0, none⟩ = some (.int .i64 T) ∧ W.cell? ⟨w.heap.size, 1, none⟩ = some (.int .i64 k)) (by kernel_rfl) ⟨s0, c0, c1⟩ (fun hS7 => ?_)
      iterate 4 (refine tkF 0 (v := ?_) ?_ ?_; rotate_left; · (intro W hSw; (try dsimp only at hSw); go_simp; try with_reducible rfl); try simp only [Act.put, List.setIfInBounds_toArray, List.set_cons_zero, List.set_cons_succ])
      refine rd 4 fun K1 hK1 => ?_
      go_simp
      go_at_call 42
      refine (HR.out j _).mono ?_
      rintro e w3 ⟨r, rfl, hr3, hrB, hb3⟩
      have hz3 := hb3.size
      have HL3 := Lib.hid (hL.out.on (Below.refl _ wr).drew |>.on hb3)
      have HS3 := Lib.hid ((Blk.drew hS.out).below hb3 hS.out.lt)
      have HC3 := Lib.hid ((Blk.drew hC.out).below hb3 hC.out.lt)
      have HGw3 := Lib.hid ((Blk.drew hGw.out).below hb3 hGw.out.lt)
      have HG3 := Lib.hid ((Blk.drew hG.out).below hb3 hG.out.lt)
      have HB3 := Lib.hid (hB.out.drew.trans (hb3.mono hzr))
      have HR3 := Lib.hid hr3
      have hlow := hL.out.low
      have n1 : ∀ i, i < j → ls i < w3.heap.size := fun i hi => Nat.lt_of_lt_of_le (hlow.1 i hi) hz3
      have n2 : ∀ i, i < j → lb i < r := fun i hi => Nat.lt_of_lt_of_le (hlow.2 i hi) hrB
      have hrB' : w.heap.size ≤ r := Nat.le_trans hzr hrB
      have hqB' : w.heap.size ≤ w3.heap.size := Nat.le_trans hzr hz3
      have N1 := Lib.hid n1
      have N2 := Lib.hid n2
      refine hK1.out _ _ ⟨HS3.out.cell rfl, HC3.out.cell rfl, HC3.out.cell rfl⟩ (fun _ => ?_)
      clear hb3 hr3 hlow n1 n2 hS hC hGw hG hL hB s0 c0 c1
      iterate 1 (refine tkF 0 (v := ?_) ?_ ?_; rotate_left; · (intro W hSw; (try dsimp only at hSw); go_simp; try with_reducible rfl); try simp only [Act.put, List.setIfInBounds_toArray, List.set_cons_zero, List.set_cons_succ])
      refine rd 6 fun K2 hK2 => ?_
      go_simp
      have hq : Blk (w3.alloc (.cells #[.iface (lkP k) (.pointer (some ⟨r, 0, none⟩)), .bool false, .bool false] 101)) w3.heap.size 101 (seL r k false false) := Blk.new w3 101 (seL r k false false)
      refine hK2.out _ _ ⟨(HS3.out.alloc _).cell rfl, (HC3.out.alloc _).cell rfl, (HC3.out.alloc _).cell rfl⟩ (fun _ => ?_)
      have HQ := Lib.hid hq
      have hg4 := HG3.out.alloc (.cells #[.iface (lkP k) (.pointer (some ⟨r, 0, none⟩)), .bool false, .bool false] 101)
      have g0 : (w3.alloc (.cells #[.iface (lkP k) (.pointer (some ⟨r, 0, none⟩)), .bool false, .bool false] 101)).cell? ⟨lg, j, none⟩ = some (.pointer none) := hg4.cell (by unfold ptrL; rw [List.getElem?_append_right (by simp), List.getElem?_replicate, if_pos (by rw [List.length_map, List.length_range]; omega)])
      have fg := hg4.frozen j
      have HG4 := Lib.hid hg4
      clear hg4 hq
      iterate 1 (refine tkF 0 (v := ?_) ?_ ?_; rotate_left; · (intro W hSw; (try dsimp only at hSw); go_simp; try with_reducible rfl); try simp only [Act.put, List.setIfInBounds_toArray, List.set_cons_zero, List.set_cons_succ])
      refine rd 8 fun K3 hK3 => ?_
      go_simp
      have hs9 := (HS3.out.alloc (.cells #[.iface (lkP k) (.pointer (some ⟨r, 0, none⟩)), .bool false, .bool false] 101))
      have hc9 := (HC3.out.alloc (.cells #[.iface (lkP k) (.pointer (some ⟨r, 0, none⟩)), .bool false, .bool false] 101))
      have hs8 := hs9.far (p := ⟨lg, j, none⟩) (hs9.blk_ne HG4.out (by decide)) (.pointer (some ⟨w3.heap.size, 0, none⟩))
      have hc8 := hc9.far (p := ⟨lg, j, none⟩) (hc9.blk_ne HG4.out (by decide)) (.pointer (some ⟨w3.heap.size, 0, none⟩))
      refine hK3.out _ _ ⟨hs8.cell rfl, hc8.cell rfl, hc8.cell rfl⟩ (fun _ => ?_)
      have hgw9 := (HGw3.out.alloc (.cells #[.iface (lkP k) (.pointer (some ⟨r, 0, none⟩)), .bool false, .bool false] 101))
      have hL9 := HL3.out.on ((Below.refl _ w3).alloc (Nat.le_refl _) (.cells #[.iface (lkP k) (.pointer (some ⟨r, 0, none⟩)), .bool false, .bool false] 101))
      have hL8 := (hL9.next HQ.out (Blk.alloc HR3.out _) hqB' hrB' N1.out N2.out).off HG4.out (by decide) (fun k => (lkT_ne k (by decide)).symm) j (.pointer (some ⟨w3.heap.size, 0, none⟩))
      have hg8 := HG4.out.set_ j (.pointer (some ⟨w3.heap.size, 0, none⟩))
      rw [ptrL_set hlt] at hg8
      have HN := Lib.hid (show _ ∧ _ ∧ _ ∧ _ ∧ _ ∧ _ from ⟨((HB3.out.alloc hqB' (.cells #[.iface (lkP k) (.pointer (some ⟨r, 0, none⟩)), .bool false, .bool false] 101)).setCell (p := ⟨lg, j, none⟩) hlgB (.pointer (some ⟨w3.heap.size, 0, none⟩))), hs8, hc8, hgw9.far (p := ⟨lg, j, none⟩) (hgw9.blk_ne HG4.out (by decide)) (.pointer (some ⟨w3.heap.size, 0, none⟩)), hg8, hL8⟩)
      clear hs9 hc9 hs8 hc8 hgw9 hL9 hL8 hg8 g0 fg
      refine wpAnyH_done (by kernel_rfl) ?_ _
      go_wp2_with fail
      go_roundg (gk - 1)
      case measure => omega
      case rel =>
        obtain ⟨a1, a2, a3, a4, a5, a6⟩ := HN.out
        exact ⟨j + 1, _, _, by omega, by go_num, a1, a2, a3, a4, a5, a6⟩
    · obtain rfl : j = T := by omega
      have c0 : wr.cell? ⟨w.heap.size, 0, none⟩ = some (.int .i64 j) := hC.out.cell rfl
      obtain ⟨m1, hrun1, hm1, hg1⟩ := kit_ins (World.ownsMap_made wr Try.prog 57 heldR) (by simp [maxLen]) 120 (by decide) (.func (.func 44) #[] #[.pointer (some ⟨lg + 1, 0, none⟩)])
      obtain ⟨m2, hrun2, hm2, hg2⟩ := kit_ins hm1 (by simp [maxLen]) 121 (by decide) (.func (.func 45) #[] #[.pointer (some ⟨lg + 1, 0, none⟩)])
      obtain ⟨m3, hrun3, hm3, hg3⟩ := kit_ins hm2 (by simp [maxLen]) 122 (by decide) (.func (.func 46) #[] #[.pointer (some ⟨w.heap.size, 0, none⟩), .pointer (some ⟨lg + 1, 0, none⟩)])
      obtain ⟨m4, hrun4, hm4, hg4⟩ := kit_ins hm3 (by simp [maxLen]) 123 (by decide) (.func (.func 47) #[] #[.pointer (some ⟨lg + 1, 0, none⟩)])
      obtain ⟨m5, hrun5, hm5, hg5⟩ := kit_ins hm4 (by simp [maxLen]) 124 (by decide) (.func (.func 48) #[] #[.pointer (some ⟨lg + 1, 0, none⟩)])
      have hzr := hB.out.size
      have hga : (wr.alloc (.map #[] 0)).grownBy m5 (some wr.heap.size) := (((hg1.trans hg2).trans hg3).trans hg4).trans hg5
      have hbm : Below wr.heap.size wr m5 := ((Below.refl _ _).alloc (Nat.le_refl _) _).grown hga (by simp) (fun q hq => by injection hq with hq; omega)
      have hk5 : ∃ o, m5.heap[wr.heap.size]? = some o ∧ KitO w.heap.size (lg + 1) o := by
        obtain ⟨es, clock, ho, hf, hs, hd⟩ := hm5
        exact ⟨_, ho, es, clock, rfl, hf, hs, hd⟩
      have HKo := Lib.hid hk5
      have HBm := Lib.hid hbm
      have HS5 := Lib.hid (hS.out.below hbm hS.out.lt)
      have HC5 := Lib.hid (hC.out.below hbm hC.out.lt)
      have HGw5 := Lib.hid (hGw.out.below hbm hGw.out.lt)
      have HG5 := Lib.hid (hG.out.below hbm hG.out.lt)
      have HL5 := Lib.hid (hL.out.on hbm)
      have HB5 := Lib.hid (hB.out.trans (hbm.mono hzr))
      clear hm1 hm2 hm3 hm4 hm5 hg1 hg2 hg3 hg4 hg5 hga hk5 hbm
      go_wp2_with fail
      refine (mmew_any j gw (lkWords k j).length (lkWords k j) wr.heap.size m5 ⟨hT1, hT2⟩ (HGw5.out.sl (by simp [u64s])) hl.2 hl.1).mono ?_
      rintro e w7 ⟨x, y, wb, wk, sg, sk, rfl, hn7, hb7⟩
      have HN7 := Lib.hid hn7
      have HB7 := Lib.hid hb7
      clear hn7 hb7
      go_wp2_with fail
      go_ret2
      have hm5w : w.heap.size ≤ m5.heap.size := HB5.out.size
      have hths : ∀ (i : Nat) (h : Th), (mc0 k j).ths[i]? = some h → i < j ∧ h = th0 k j i := by
        intro i h hi
        unfold mc0 at hi
        dsimp only at hi
        rw [Int.toNat_natCast, List.getElem?_map] at hi
        by_cases hij : i < j
        · rw [List.getElem?_range hij] at hi
          simp at hi
          exact ⟨hij, hi.symm⟩
        · rw [List.getElem?_eq_none (by simpa using hij)] at hi
          cases hi
      have hlen : (mc0 k j).ths.length = j := by unfold mc0; simp
      refine ⟨⟨x, y, wb, wk, sg, sk, wr.heap.size, .slice none 0 0, .slice none 0 0, .slice none 0 0, lg + 1, w.heap.size, lg, ls, lb, fun _ => 0⟩, rfl, ?_, HB5.out.trans (HB7.out.mono hm5w)⟩
      have hL7 := HL5.out.on HB7.out
      have nn := HN7.out
      refine ⟨⟨0, 0, false, ?_⟩, ⟨0, nn.yb⟩, nn.wr, World.ownsRow_nil _ _ _ _, ⟨0, [], Nat.le_refl _, World.ownsRow_nil _ _ _ _⟩, World.ownsRow_nil _ _ _ _, ?_, ?_, ⟨_, HC5.out.below HB7.out HC5.out.lt⟩, ?_, ?_, ?_, ?_, ?_, ?_, Nat.le_trans hm5w nn.bx, Nat.le_trans hm5w nn.by_, Nat.le_trans hm5w nn.bw, Nat.le_trans hm5w nn.bs, ?_, ?_, ?_⟩
      · rw [hlen]; exact nn.xb
      · rw [hlen, thVals0 _ _ _ (fun h hh => by
          unfold mc0 at hh
          obtain ⟨i, _, rfl⟩ := List.mem_map.1 hh
          exact ⟨rfl, rfl, rfl, rfl, rfl⟩), hlen]
        exact nn.se
      · rw [hlen]; exact HS5.out.below HB7.out HS5.out.lt
      · rw [hlen]
        have := HG5.out.below HB7.out HG5.out.lt
        unfold ptrL at this
        simpa using this
      · intro i h hi
        obtain ⟨hij, rfl⟩ := hths i h hi
        obtain ⟨a1, a2, a3, a4, _, _⟩ := hL7.blk i hij
        exact ⟨a1, a2, rfl, a3, a4⟩
      · intro i h p hi hp
        obtain ⟨hij, rfl⟩ := hths i h hi
        cases hp
      · rw [hlen]
        intro i i' h1 h2 e
        rcases Nat.lt_trichotomy i i' with hl | hl | hl
        · have := hL7.in1 i i' hl h2; dsimp only at e; omega
        · exact hl
        · have := hL7.in1 i' i hl h1; dsimp only at e; omega
      · rw [hlen]
        intro i i' h1 h2 e
        rcases Nat.lt_trichotomy i i' with hl | hl | hl
        · have := hL7.in2 i i' hl h2; dsimp only at e; omega
        · exact hl
        · have := hL7.in2 i' i hl h1; dsimp only at e; omega
      · intro i i' h h' p p' hi _ hp
        obtain ⟨hij, rfl⟩ := hths i h hi
        cases hp
      · unfold mc0; simp
      · rw [hlen]; exact ⟨hT1, hT2⟩
      · obtain ⟨o, ho, hk⟩ := HKo.out
        exact ⟨o, (HB7.out.block _ (Array.getElem?_eq_some_iff.1 ho).1).trans ho, hk⟩
end Go.Proofs.Ytjnmlgfkiebkgaa
