/-
  api.Move as plain data; moves in new memory with marks behind them (Twin), and whether these stand (Whole).
-/
import Derived.Test.YtgbopmgeicokoaaCnt
import Derived.Test.YtgbopmgeicokoaaWPlain
import Derived.BigQuiet
import Derived.Deep.LoopGhost
namespace Go.Proofs.Ytgbopmgeicokoaa
open Go.RowKit

structure Mv where
  thread : Int
  op : Int
  arg : Int
  data : Int
abbrev mvL (a : Mv) : List Value := [.int .i64 a.thread, .int .i64 a.op, .int .i64 a.arg, .int .i64 a.data]
def mvVals (l : List Mv) : List Value := l.flatMap mvL
theorem mvVals_len (l : List Mv) : (mvVals l).length = l.length * 4 := by
  induction l with
  | nil => rfl
  | cons a l ih => simp only [mvVals, List.flatMap_cons, List.length_append, List.length_cons, List.length_nil] at ih ⊢; omega
theorem mvVals_get (l : List Mv) (k : Nat) (x : Mv) (h : l[k]? = some x) (j : Nat) (hj : j < 4) : (mvVals l)[k * 4 + j]? = (mvL x)[j]? := by
  induction l generalizing k with
  | nil => simp at h
  | cons a l ih =>
    cases k with
    | zero =>
      simp at h
      subst h
      show (mvL a ++ mvVals l)[0 * 4 + j]? = _
      rw [Nat.zero_mul, Nat.zero_add, List.getElem?_append_left (by simpa using hj)]
    | succ k =>
      have := ih k (by simpa using h)
      show (mvL a ++ mvVals l)[(k + 1) * 4 + j]? = _
      rw [List.getElem?_append_right (by simp; omega), ← this]
      congr 1
      simp
      omega
theorem mvVals_app (l l' : List Mv) : mvVals (l ++ l') = mvVals l ++ mvVals l' := by unfold mvVals; rw [List.flatMap_append]
theorem mvVals_one {l : List Mv} : ∀ u ∈ mvVals l, u.oneCell' = true := by
  intro u hu
  obtain ⟨a, _, ha⟩ := List.mem_flatMap.1 hu
  simp at ha
  rcases ha with rfl | rfl | rfl | rfl <;> rfl
/-- the four cells of a move -/
abbrev MvAt (x : Mv) (b o : Nat) (W : World) : Prop := W.cell? ⟨b, o, none⟩ = some (.int .i64 x.thread) ∧ W.cell? ⟨b, o + 1, none⟩ = some (.int .i64 x.op) ∧ W.cell? ⟨b, o + 2, none⟩ = some (.int .i64 x.arg) ∧ W.cell? ⟨b, o + 3, none⟩ = some (.int .i64 x.data)
/-- a slice of moves -/
structure MvsAt (w : World) (B : Nat) (A : Option Addr) (n k : Nat) (ms : List Mv) : Prop where
  sl : Sl w B 4 A n (mvVals ms)
  nk : n ≤ k ∧ k ≤ maxLen
theorem MvsAt.len {w : World} {B n k : Nat} {A : Option Addr} {ms : List Mv} (h : MvsAt w B A n k ms) : ms.length = n := by have := h.sl.1; rw [mvVals_len] at this; omega
theorem MvsAt.keep {w w' : World} {B n k : Nat} {A : Option Addr} {ms : List Mv} (h : MvsAt w B A n k ms) (hb : Below B w w') : MvsAt w' B A n k ms := ⟨h.sl.below hb, h.nk⟩
theorem MvsAt.up {w : World} {B B' n k : Nat} {A : Option Addr} {ms : List Mv} (h : MvsAt w B A n k ms) (hB : B ≤ B') : MvsAt w B' A n k ms := ⟨h.sl.up hB, h.nk⟩
theorem Sl.mv {w : World} {B n : Nat} {A : Option Addr} {ms : List Mv} (h : Sl w B 4 A n (mvVals ms)) (hn : n = ms.length) {j : Nat} {x : Mv} (hx : ms[j]? = some x) : ∃ b o, A = some ⟨b, o, none⟩ ∧ b < B ∧ MvAt x b (o + j * 4) w := by
  have hj : j < n := by rw [hn]; exact (List.getElem?_eq_some_iff.1 hx).1
  obtain ⟨b, o, e, hb, hc⟩ := h.2 (by omega)
  refine ⟨b, o, e, hb, ?_, ?_, ?_, ?_⟩
  · exact hc (j * 4 + 0) _ (mvVals_get ms j x hx 0 (by omega))
  · rw [Nat.add_assoc]; exact hc (j * 4 + 1) _ (mvVals_get ms j x hx 1 (by omega))
  · rw [Nat.add_assoc]; exact hc (j * 4 + 2) _ (mvVals_get ms j x hx 2 (by omega))
  · rw [Nat.add_assoc]; exact hc (j * 4 + 3) _ (mvVals_get ms j x hx 3 (by omega))
theorem MvsAt.at_ {w : World} {B n k : Nat} {A : Option Addr} {ms : List Mv} (h : MvsAt w B A n k ms) {j : Nat} {x : Mv} (hx : ms[j]? = some x) : ∃ b o, A = some ⟨b, o, none⟩ ∧ b < B ∧ MvAt x b (o + j * 4) w := h.sl.mv h.len.symm hx

theorem Sl.other {w w' : World} {B sz n : Nat} {A : Option Addr} {xs : List Value} (h : Sl w B sz A n xs) (hk : ∀ a, A = some a → w'.heap[a.block]? = w.heap[a.block]?) : Sl w' B sz A n xs := by
  refine ⟨h.1, fun hn => ?_⟩
  obtain ⟨b, o, e, hb, hc⟩ := h.2 hn
  exact ⟨b, o, e, hb, fun j u hu => (World.cell?_of_block (a := ⟨b, o + j, none⟩) (hk ⟨b, o, none⟩ e)).trans (hc j u hu)⟩
/-- the marks behind the moves -/
def mark (k : Nat) : Mv := ⟨900 + k, 901, 902, 903⟩
def marks (k : Nat) : List Mv := (List.range k).map mark
theorem marks_len (k : Nat) : (marks k).length = k := by simp [marks]
theorem marks_next (k : Nat) : marks (k + 1) = marks k ++ [mark k] := by unfold marks; rw [List.range_succ, List.map_append]; rfl
theorem marks_get {k j : Nat} (h : j < k) : (marks k)[j]? = some (mark j) := by simp [marks, h]
theorem info_move : (Try.prog.info? 95).map (fun i => (i.zero, i.size, i.bytes)) = some (some (.agg #[.int .i64 0, .int .i64 0, .int .i64 0, .int .i64 0]), 4, 32) := by kernel_rfl

theorem mv4_one (a b c d : Int) : ∀ u ∈ [Value.int .i64 a, .int .i64 b, .int .i64 c, .int .i64 d], u.oneCell' = true := by intro u hu; simp at hu; rcases hu with rfl | rfl | rfl | rfl <;> rfl
/-- the moves in new memory, and all of that memory -/
def TwinR (n : Nat) (ms : List Mv) (w : World) (e : Ending) (w' : World) : Prop :=
  ∃ A k, e = .returned (.tuple #[.slice A n k, .slice A (n + 9) k]) ∧ Sl w' w'.heap.size 4 A (n + 9) (mvVals (ms ++ marks 9)) ∧ Below w.heap.size w w' ∧ n + 9 ≤ k ∧ k ≤ maxLen ∧ ∀ a, A = some a → w.heap.size ≤ a.block

set_option maxRecDepth 100000 in
set_option maxHeartbeats 4000000 in
theorem twin03_any (A : Option Addr) (n k : Nat) (ms : List Mv) (w : World) (h : MvsAt w w.heap.size A n k ms) (hn : n ≤ 4398046511095) :
    Calls Try.prog 69 #[.slice A n k] w (TwinR n ms w) := by
  obtain ⟨i1, hi1, hi1z, hi1s, hi1b⟩ := info_parts info_move
  have hk1 := h.nk.1
  have HK2 := Lib.hid h.nk.2
  have HLen := Lib.hid h.len
  have HS := Lib.hid h.sl
  clear h
  go_enter Try.func69, Try.ntmps69
  go_wp2_with (at_builtin; go_must (refine wpList_app _ rfl _ _ 74 rfl w.heap.size 95 i1 (.agg #[.int .i64 0, .int .i64 0, .int .i64 0, .int .i64 0]) 4 32 Try.underlying74 hi1 hi1z hi1s hi1b rfl (by decide) (.slice none 0 0) 0 [] rfl (World.ownsRow_nil _ _ _ _) w.heap.size A n k (mvVals ms) rfl HS.out mvVals_one n (by omega) (mvVals ms) rfl none rfl (by simp only [maxLen]; omega) (by omega) (Nat.le_refl _) ?_; intro A1 k1 w1 hown1 hg1 hat1 hk3 hk4))
  have HO1 := Lib.hid hown1
  have HB1 := Lib.hid (show Below w.heap.size w w1 from ⟨hg1.os, hg1.tape, hg1.output, hg1.size, fun i hi => hg1.block i hi (by simp)⟩)
  clear hown1 hg1 hat1
  go_loopg [4, 5] 9 (fun gk v0 i wr => ∃ (j : Nat) (v : Value), j + gk = 9 ∧ i = .int .i64 j ∧ v = v0 ∧ Hid (wr.ownsRow w.heap.size 95 4 v (n + j) (mvVals (ms ++ marks j))) ∧ Below w.heap.size w wr)
  case atStart => exact ⟨0, _, by omega, rfl, rfl, by rw [show marks 0 = [] from rfl, List.append_nil]; exact HO1.out, HB1.out⟩
  case round =>
    obtain ⟨j, v, hj, rfl, rfl, HO, hbr⟩ := hrel
    have hzr := hbr.size
    by_cases hlt : j < 9
    · have e1 : (j : Int) < 9 := by omega
      have e0 : (0 : Int) ≤ j := by omega
      have b1 : IntKind.i64.wrap (900 + (j : Int)) = 900 + (j : Int) := IntWalk.i64_in _ (by omega)
      go_wp2_with (at_builtin; go_must (refine wpList_app _ rfl _ _ 74 rfl w.heap.size 95 i1 (.agg #[.int .i64 0, .int .i64 0, .int .i64 0, .int .i64 0]) 4 32 Try.underlying74 hi1 hi1z hi1s hi1b rfl (by decide) v (n + j) _ rfl (HO.out.alloc _) (wr.heap.size + 1) (some ⟨wr.heap.size, 0, none⟩) 1 1 [.int .i64 (900 + (j : Int)), .int .i64 901, .int .i64 902, .int .i64 903] rfl (((Blk.new wr 95 _).sl rfl).up (by simp)) (mv4_one _ _ _ _) (n + j + 1) rfl _ rfl _ rfl (by simp only [maxLen]; omega) (by omega) (by rw [World.size_alloc]; omega) ?_; intro A7 k7 w7 hown7 hg7 hat7 hk7 hk8))
      go_roundg (gk - 1)
      case measure => omega
      case rel =>
        refine ⟨j + 1, .slice A7 (n + j + 1) k7, by omega, by go_num, rfl, ?_, (hbr.alloc hzr _).grown hg7 (by rw [World.size_alloc]; omega) (fun q hq => (HO.out.lt q hq).1)⟩
        rw [marks_next, ← List.append_assoc, mvVals_app]
        exact hown7
    · obtain rfl : j = 9 := by omega
      obtain ⟨A5, k5, rfl, h5, h6⟩ := own_form HO.out
      have HO5 := Lib.hid (Sl.of_own HO.out)
      have HLt := Lib.hid HO.out.lt
      have f1 : (n : Int) ≤ k5 := by omega
      have f2 : n ≤ k5 := by omega
      have f3 : (0 : Int) ≤ n := by omega
      unfold maxLen at h6
      go_wp2_with fail
      go_ret2
      exact ⟨A5, k5, rfl, HO5.out, hbr, h5, by simp only [maxLen]; omega, fun a ha => by subst ha; exact (HLt.out a.block rfl).1⟩

set_option maxRecDepth 100000 in
set_option maxHeartbeats 4000000 in
theorem whole_any (A A1 : Option Addr) (n k k1 : Nat) (ms : List Mv) (w : World) (h : MvsAt w w.heap.size A n k ms) (h1 : Sl w w.heap.size 4 A1 (n + 9) (mvVals (ms ++ marks 9))) (hn : n ≤ 4398046511095) (hk1 : n + 9 ≤ k1 ∧ k1 ≤ maxLen) :
    Calls Try.prog 33 #[.slice A n k, .slice A1 (n + 9) k1] w (BoolR true w) := by
  have HLen := Lib.hid h.len
  have HM := Lib.hid h
  have H1 := Lib.hid h1
  have g1 : n ≤ k := h.nk.1
  have g2 : n + 9 ≤ k1 := hk1.1
  clear h h1 hk1
  go_enter Try.func33, Try.ntmps33
  go_wp2_with fail
  go_loopg [5] n (fun gk i wr => ∃ j : Nat, j + gk = n ∧ i = .int .i64 j ∧ Below w.heap.size w wr)
  case atStart => exact ⟨0, by omega, rfl, Below.refl _ _⟩
  case round =>
    obtain ⟨j, hj, rfl, hbr⟩ := hrel
    have hzr := hbr.size
    by_cases hlt : j < n
    · obtain ⟨x, hx⟩ := at_lt (by rw [HLen.out]; exact hlt : j < ms.length)
      obtain ⟨b, o, rfl, hb, x0, x1, x2, x3⟩ := (HM.out.keep hbr).at_ hx
      obtain ⟨b1, o1, rfl, hb1, y0, y1, y2, y3⟩ := (H1.out.below hbr).mv (by rw [List.length_append, HLen.out, marks_len]) (show (ms ++ marks 9)[j]? = some x by rw [List.getElem?_append_left (by rw [HLen.out]; exact hlt)]; exact hx)
      have e1 : (j : Int) < n := by omega
      have e0 : (0 : Int) ≤ j := by omega
      have e2 : (j : Int) < (n : Int) + 9 := by omega
      clear hx
      go_upto_region 4 with fail
      go_quiet (fail)
      go_wp2_with fail
      go_roundg (gk - 1)
      case measure => omega
      case rel => exact ⟨j + 1, by omega, by go_num, hbr.drewN _⟩
    · obtain rfl : j = n := by omega
      go_wp2_with fail
      obtain ⟨wo, rfl⟩ : ∃ wo : World, wo = wr := ⟨_, rfl⟩
      obtain ⟨go, rfl⟩ : ∃ go : Nat, go = gk := ⟨_, rfl⟩
      go_loopg [6] 9 (fun gk i wr => ∃ q : Nat, q + gk = 9 ∧ i = .int .i64 q ∧ Below w.heap.size w wr)
      case atStart => exact ⟨0, by omega, rfl, hbr⟩
      case round =>
        obtain ⟨q, hq, rfl, hbx⟩ := hrel
        have hzx := hbx.size
        by_cases hlt2 : q < 9
        · obtain ⟨b1, o1, rfl, hb1, y0, y1, y2, y3⟩ := (H1.out.below hbx).mv (by rw [List.length_append, HLen.out, marks_len]) (show (ms ++ marks 9)[j + q]? = some (mark q) by rw [List.getElem?_append_right (by rw [HLen.out]; omega), HLen.out, show j + q - j = q by omega]; exact marks_get hlt2)
          have e1 : (q : Int) < 9 := by omega
          have e0 : (0 : Int) ≤ q := by omega
          have b9 : IntKind.i64.wrap (900 + (q : Int)) = 900 + (q : Int) := IntWalk.i64_in _ (by omega)
          have b8 : IntKind.i64.wrap ((j : Int) + q) = (j : Int) + q := IntWalk.i64_in _ (by omega)
          have z0 : wr.cell? ⟨b1, o1 + (j + q) * 4, none⟩ = some (.int .i64 (900 + (q : Int))) := y0
          have z1 : wr.cell? ⟨b1, o1 + (j + q) * 4 + 1, none⟩ = some (.int .i64 901) := y1
          have z2 : wr.cell? ⟨b1, o1 + (j + q) * 4 + 2, none⟩ = some (.int .i64 902) := y2
          have z3 : wr.cell? ⟨b1, o1 + (j + q) * 4 + 3, none⟩ = some (.int .i64 903) := y3
          clear y0 y1 y2 y3
          go_wp2_with fail
          go_roundg (gk - 1)
          case measure => omega
          case rel => exact ⟨q + 1, by omega, by go_num, hbx⟩
        · obtain rfl : q = 9 := by omega
          go_wp2_with fail
          go_ret
          exact ⟨rfl, hbx⟩
end Go.Proofs.Ytgbopmgeicokoaa
