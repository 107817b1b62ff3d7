/-
  The iterator that memory.Log hands out: all accesses, in their order.
-/
import Derived.Test.YtjnmlgfkiebkgaaLcn
import Derived.RangeFuncNested
import Derived.RangeFuncBound
import Derived.RangeFuncCalls
import Derived.RangeFuncLeaves
import Derived.RangeFuncBox
import Derived.Shelf.Abstract
import Derived.Shelf.RegionOpen
import Derived.OwnWalkIn
import Derived.TacticsInMore
import Derived.LoopNIn
import Derived.LoopIn
namespace Go.Proofs.Ytjnmlgfkiebkgaa
open Go.RowKit Go.Shelf
set_option linter.unusedVariables false
set_option linter.unusedSimpArgs false
attribute [local go_sem] Oper.semAt_some

/-- the block that the row at cell 1 of q has -/
def trB (q : Nat) (W : World) : Option Nat := (W.cell? ⟨q, 1, none⟩).bind Value.ownBlock
/-- what a round keeps: all cells but those of q and of the row that q holds -/
def KpT (q : Nat) (A B : World) : Prop :=
  A.heap.size ≤ B.heap.size ∧ (∀ (b : Nat) (o : Obj), A.heap[b]? = some o → o.isCells = true → b ≠ q → trB q A ≠ some b → B.heap[b]? = some o) ∧ (∀ g, trB q B = some g → trB q A = some g ∨ A.heap.size ≤ g)
theorem KpT.trans {q : Nat} {A B C : World} (h : KpT q A B) (h' : KpT q B C) : KpT q A C := by
  refine ⟨Nat.le_trans h.1 h'.1, fun b o h1 h2 h3 h4 => ?_, fun g hg => ?_⟩
  · have hb := (Array.getElem?_eq_some_iff.1 h1).1
    refine h'.2.1 b o (h.2.1 b o h1 h2 h3 h4) h2 h3 (fun e => ?_)
    rcases h.2.2 b e with e' | e'
    · exact h4 e'
    · omega
  · rcases h'.2.2 g hg with e | e
    · exact h.2.2 g e
    · exact Or.inr (Nat.le_trans h.1 e)
theorem KpT.row {q : Nat} {A B : World} (h : KpT q A B) {g B' sz n : Nat} {t : TypeId} {k : Nat} {xs : List Value} (hr : A.ownsRow B' t sz (.slice (some ⟨g, 0, none⟩) n k) n xs) (hq : g ≠ q) (ht : trB q A ≠ some g) : B.ownsRow B' t sz (.slice (some ⟨g, 0, none⟩) n k) n xs :=
  ⟨hr.1, hr.2.imp id fun ⟨g', cap, cur, e1, h1, h2, h3⟩ => by
    have e2 : g = g' := by injection e1 with e1; injection e1 with e1; injection e1
    subst e2
    exact ⟨g, cap, cur, e1, h1, h.2.1 g _ h2 rfl hq ht, h3⟩⟩
def ac0 : Ac := ⟨0, 0, 0, 0, 0, 0, 0⟩
def upt (l : List Ac) (k : Nat) : List (Nat × Ac) := (List.range k).map fun j => (j, l[j]?.getD ac0)
theorem upt_succ (l : List Ac) (k : Nat) : upt l (k + 1) = upt l k ++ [(k, l[k]?.getD ac0)] := by simp [upt, List.range_succ]
theorem upt_len (l : List Ac) (k : Nat) : (upt l k).length = k := by simp [upt]
abbrev acV (a : Ac) : Value := .agg #[.int .i64 a.mv, .int .i64 a.th, .int .i64 a.kd, .int .i64 a.ad, .int .u64 a.old, .int .u64 a.new, .int .u64 a.saw]
theorem acVals_get {l : List Ac} {t : Nat} {c : Ac} (hh : l[t]? = some c) (j : Nat) (hj : j < 7) : (acVals l)[t * 7 + j]? = (acL c)[j]? := by
  induction l generalizing t with
  | nil => simp at hh
  | cons a l ih =>
    cases t with
    | zero =>
      simp at hh
      subst hh
      show (acL a ++ acVals l)[_]? = _
      rw [List.getElem?_append_left (by simp; omega)]
      simp
    | succ t =>
      have := ih (t := t) (by simpa using hh)
      show (acL a ++ acVals l)[_]? = _
      rw [List.getElem?_append_right (by simp; omega)]
      rw [show (t + 1) * 7 + j - (acL a).length = t * 7 + j by simp; omega, this]

set_option maxRecDepth 100000 in
set_option maxHeartbeats 4000000 in
theorem logi_in (n : Nat) (hn : 1 ≤ n) (l q bm bf y B : Nat) (v : Value) (log : List Ac) (hlim : log.length ≤ 100000) (J Jx : List (Nat × Ac) → World → Prop)
    (hY : ∀ pre x W, J pre W → pre.length < log.length → YieldAt Fence.wide (n - 1) Try.prog l #[.int .i64 (x.1 : Int), acV x.2] W fun e W' =>
      (e = .returned (.bool true) ∧ J (pre ++ [x]) W' ∧ KpT q W W') ∨ (e = .returned (.bool false) ∧ Jx (pre ++ [x]) W'))
    (W : World) (hJ : AbidesFrom W.heap.size J) (hbm : W.cell? ⟨bm, 0, none⟩ = some (.pointer (some ⟨y, 0, none⟩))) (hbf : W.cell? ⟨bf, 0, none⟩ = some (.int .i64 0)) (hy : W.cell? ⟨y, 1, none⟩ = some v) (ho : W.ownsRow B 66 7 v log.length (acVals log))
    (hq : q < W.heap.size) (htr : trB q W = none) (h0 : J [] W) :
    CallsIn Fence.wide n Try.prog 60 #[.func (.yield l) #[] #[], .pointer (some ⟨bm, 0, none⟩), .pointer (some ⟨bf, 0, none⟩)] W fun e W' => (∃ v, e = .returned v) ∧
      ((∃ ys, ys = upt log log.length ∧ J ys W') ∨ (∃ pre, (∃ k, k ≤ log.length ∧ pre = upt log k) ∧ Jx pre W')) := by
  refine callsIn_of_wp Try.func60 rfl trivial ?_ rfl
  simp only [Try.ntmps60, List.size_toArray, List.length_cons, List.length_nil, Nat.reduceAdd, Nat.reduceSub, Array.replicate_succ, Array.replicate_zero, List.push_toArray, List.append_toArray, List.nil_append, List.cons_append]
  gi_wp2_with (refine ⟨trivial, ?_⟩; gi_at_call 61; refine (callsIn_wide.2 (caa_own log _ ho hlim)).mono ?_; rintro e w1 ⟨A1, k1, rfl, ho1, hb1⟩; have hbf1 : w1.cell? ⟨bf, 0, none⟩ = some (.int .i64 0) := (hb1.cell (World.block_lt_of_cell? W _ hbf)).trans hbf)
  have hJ1 : J [] w1 := hJ [] W w1 none h0 ⟨hb1.os, hb1.tape, hb1.output, hb1.size, fun k hk _ => hb1.block k hk⟩ (fun r e => by cases e)
  have htr1 : trB q w1 = none := by
    unfold trB at htr ⊢
    rw [hb1.cell (p := ⟨q, 1, none⟩) hq]
    exact htr
  have hrow : 0 < log.length → ∃ g, A1 = some ⟨g, 0, none⟩ ∧ g ≠ q := fun hpos => by
    obtain ⟨g, e, hg, _⟩ := Rw.of_own ho1 hpos
    exact ⟨g, e, by omega⟩
  have HO1 := Lib.hid ho1
  have HR := Lib.hid hrow
  clear ho1 hrow
  gi_loopw [5] (fun i wr => ∃ k : Nat, k ≤ log.length ∧ i = .int .i64 k ∧ J (upt log k) wr ∧ Hid (0 < log.length → wr.ownsRow W.heap.size 66 7 (.slice A1 log.length k1) log.length (acVals log) ∧ ∀ g, A1 = some ⟨g, 0, none⟩ → trB q wr ≠ some g))
    (fun i _ => log.length - (intOf i).toNat)
  case atStart => exact ⟨0, Nat.zero_le _, rfl, hJ1, fun _ => ⟨HO1.out, fun g _ => by rw [htr1]; simp⟩⟩
  case round =>
    obtain ⟨k, hk, rfl, hJs, hO⟩ := hrel
    by_cases hlt : k < log.length
    · obtain ⟨x, hx⟩ := at_lt hlt
      obtain ⟨fn, tmps, assign, body, hy, hR⟩ := hY _ (k, x) wr hJs (by rw [upt_len]; exact hlt)
      dsimp only at hy
      obtain ⟨g, hA, hgq⟩ := HR.out (by omega)
      subst hA
      obtain ⟨o1, o2⟩ := hO.out (by omega)
      have hs := (Sl.of_own o1).2 (by omega)
      obtain ⟨b9, o9, e9, hb9, hc9⟩ := hs
      obtain ⟨rfl, rfl⟩ : b9 = g ∧ o9 = 0 := by injection e9 with e9; injection e9 with e1 e2; exact ⟨e1.symm, e2.symm⟩
      have q0 : wr.cell? ⟨b9, k * 7, none⟩ = some (.int .i64 x.mv) := by have := hc9 (k * 7 + 0) _ (acVals_get hx 0 (by omega)); simpa using this
      have q1 : wr.cell? ⟨b9, k * 7 + 1, none⟩ = some (.int .i64 x.th) := by have := hc9 (k * 7 + 1) _ (acVals_get hx 1 (by omega)); simpa using this
      have q2 : wr.cell? ⟨b9, k * 7 + 2, none⟩ = some (.int .i64 x.kd) := by have := hc9 (k * 7 + 2) _ (acVals_get hx 2 (by omega)); simpa using this
      have q3 : wr.cell? ⟨b9, k * 7 + 3, none⟩ = some (.int .i64 x.ad) := by have := hc9 (k * 7 + 3) _ (acVals_get hx 3 (by omega)); simpa using this
      have q4 : wr.cell? ⟨b9, k * 7 + 4, none⟩ = some (.int .u64 x.old) := by have := hc9 (k * 7 + 4) _ (acVals_get hx 4 (by omega)); simpa using this
      have q5 : wr.cell? ⟨b9, k * 7 + 5, none⟩ = some (.int .u64 x.new) := by have := hc9 (k * 7 + 5) _ (acVals_get hx 5 (by omega)); simpa using this
      have q6 : wr.cell? ⟨b9, k * 7 + 6, none⟩ = some (.int .u64 x.saw) := by have := hc9 (k * 7 + 6) _ (acVals_get hx 6 (by omega)); simpa using this
      have hlt' : (k : Int) < log.length := by omega
      have H1 := Lib.hid o1
      have H2 := Lib.hid o2
      have HX := Lib.hid hx
      clear hc9 o1 o2 hO hx
      gi_wp2
      refine hR.mono ?_
      rintro e W3 (⟨rfl, hJ3, hk3⟩ | ⟨rfl, hJx3⟩)
      · gi_wp2
        go_roundw
        case rel =>
          refine ⟨k + 1, by omega, by simp, by rw [upt_succ, HX.out]; exact hJ3, fun _ => ⟨hk3.row H1.out hgq (H2.out b9 rfl), fun g hg => ?_⟩⟩
          injection hg with hg
          injection hg with hg
          subst hg
          intro e
          rcases hk3.2.2 b9 e with e' | e'
          · exact H2.out b9 rfl e'
          · omega
        case measure => simp [intOf]; omega
      · gi_wp2
        refine bodyPost_ret (results_none rfl _ _ _) rfl ?_
        exact ⟨⟨_, rfl⟩, .inr ⟨_, ⟨k + 1, by omega, by rw [upt_succ, HX.out]; rfl⟩, hJx3⟩⟩
    · obtain rfl : k = log.length := by omega
      gi_wp2
      go_end0
      exact ⟨⟨_, rfl⟩, .inl ⟨_, rfl, hJs⟩⟩
end Go.Proofs.Ytjnmlgfkiebkgaa
