/-
  locks.Play: a script's run.
-/
import Derived.Test.YtjnmlgfkiebkgaaLrn
namespace Go.Proofs.Ytjnmlgfkiebkgaa
open Go.RowKit
set_option linter.unusedVariables false
set_option linter.unusedSimpArgs false

theorem results_cell_rowp {P : Program} {fn : Func} {p u : Tmp} {ty : TypeId} (h : fn.results = #[.cell p ty, .tmp u]) (tmps : Array Value) (w : World) (g : Nat) (t : TypeId) (cs : Array Value) (fr : Nat × Nat) (d : TypeDesc)
    (hp : tmps.getD p undef = .pointer (some ⟨g, 0, none⟩)) (hg : w.heap[g]? = some (.cells cs t fr))
    (hu : P.underlying ty = some d) (hd : (match d with | .struct _ | .array _ _ => true | _ => false) = true) (hi : (P.info? ty).map (·.size) = some cs.size) :
    (results fn tmps).run P w = .ok (.tuple #[.agg cs, tmps.getD u undef]) w := by
  rw [results_cell_tmp h, hp]
  simp [asAddr, run_loadVar_row w g t ty cs fr d hg hu hd hi]
abbrev moL (v : Mo) : List Value := [.int .i64 v.th, .int .i64 v.op, .int .i64 v.arg, .int .i64 v.dat]
def moVals (l : List Mo) : List Value := l.flatMap moL
theorem moVals_len (l : List Mo) : (moVals l).length = l.length * 4 := by
  induction l with
  | nil => rfl
  | cons h l ih => simp only [moVals, List.flatMap_cons, List.length_append, List.length_cons, List.length_nil] at ih ⊢; omega
theorem moVals_get {l : List Mo} {t : Nat} {c : Mo} (hh : l[t]? = some c) (j : Nat) (hj : j < 4) : (moVals l)[t * 4 + j]? = (moL c)[j]? := by
  induction l generalizing t with
  | nil => simp at hh
  | cons a l ih =>
    cases t with
    | zero =>
      simp at hh
      subst hh
      show (moL a ++ moVals l)[_]? = _
      rw [List.getElem?_append_left (by simp; omega)]
      simp
    | succ t =>
      have := ih (t := t) (by simpa using hh)
      show (moL a ++ moVals l)[_]? = _
      rw [List.getElem?_append_right (by simp; omega)]
      rw [show (t + 1) * 4 + j - (moL a).length = t * 4 + j by simp; omega, this]
theorem moves_snoc (m : Mc) (l : List Mo) (v : Mo) : m.moves_ (l ++ [v]) = ((m.moves_ l).move v).2 := by
  induction l generalizing m with
  | nil => rfl
  | cons a l ih => exact ih _
theorem move_kd (m : Mc) (v : Mo) : (m.move v).2.kd = m.kd := by
  unfold Mc.move
  cases decide (65536 ≤ m.moves)
  · cases decide (v.th < 0)
    · dsimp only [cond_false]
      cases m.ths[v.th.toNat]? with
      | none => rfl
      | some h =>
        dsimp only
        cases h.task with
        | some p => cases v.op == 0 <;> rfl
        | none =>
          dsimp only
          cases v.op == 0
          · dsimp only [cond_false]
            cases m.make h v.op <;> rfl
          · rfl
    · rfl
  · rfl
theorem moves_kd (m : Mc) (l : List Mo) : (m.moves_ l).kd = m.kd := by
  induction l generalizing m with
  | nil => rfl
  | cons a l ih => exact (ih _).trans (move_kd m a)
def PlayR (m : Mc) (W : World) (e : Ending) (w' : World) : Prop :=
  ∃ Ac kc At kt Aw kw, e = .returned (.tuple #[.agg #[.slice Ac m.calls.length kc, .slice At m.log.length kt, .slice none 0 0, .slice Aw m.words.length kw], .int .i64 0]) ∧
    w'.ownsRow W.heap.size 62 9 (.slice Ac m.calls.length kc) m.calls.length (calVals m.calls) ∧ w'.ownsRow W.heap.size 66 7 (.slice At m.log.length kt) m.log.length (acVals m.log) ∧
    w'.ownsRow W.heap.size 34 1 (.slice Aw m.words.length kw) m.words.length (u64s m.words) ∧ Below W.heap.size W w'
set_option maxRecDepth 100000 in
set_option maxHeartbeats 4000000 in
theorem lplay_any (k : Int) (T : Nat) (K : KOk k) (hT : 1 ≤ T ∧ T ≤ 16) (hnew : ∀ w, Calls Try.prog 27 #[.agg #[.int .i64 T, .int .i64 k]] w (fun e w' => ∃ M, e = .returned (.tuple #[.pointer (some ⟨M.x, 0, none⟩), .int .i64 0]) ∧ MM w' w.heap.size M (mc0 k T) ∧ Below w.heap.size w w'))
    (ms : List Mo) (A : Option Addr) (c : Nat) (w : World) (h : Sl w w.heap.size 4 A ms.length (moVals ms)) (hn : ms.length ≤ 65536) (hop : ∀ v ∈ ms, -9223372036854775808 ≤ v.op ∧ v.op ≤ 9223372036854775807)
    (hlim : ((mc0 k T).moves_ ms).log.length ≤ 100000 ∧ ((mc0 k T).moves_ ms).calls.length ≤ 100000 ∧ ((mc0 k T).moves_ ms).words.length ≤ 8192) :
    Calls Try.prog 24 #[.agg #[.int .i64 T, .int .i64 k], .slice A ms.length c] w (PlayR ((mc0 k T).moves_ ms) w) := by
  have HS := Lib.hid h
  have HN := Lib.hid hnew
  have HO := Lib.hid hop
  have d1 : decide ((65536 : Int) < ms.length) = false := by simp; omega
  have d2 : ¬ (65536 : Int) < ms.length := by omega
  clear h hnew hop
  go_enter Try.func24, Try.ntmps24
  go_wp2_with fail
  have hb0 : Below w.heap.size w ((w.alloc (.cells #[.int .i64 T, .int .i64 k] 24)).alloc (.cells #[.slice none 0 0, .slice none 0 0, .slice none 0 0, .slice none 0 0] 39)) := ((Below.refl _ _).alloc (Nat.le_refl _) _).alloc (by simp) _
  have hr0 : Blk ((w.alloc (.cells #[.int .i64 T, .int .i64 k] 24)).alloc (.cells #[.slice none 0 0, .slice none 0 0, .slice none 0 0, .slice none 0 0] 39)) (w.heap.size + 1) 39 [.slice none 0 0, .slice none 0 0, .slice none 0 0, .slice none 0 0] := new1_blk' _ _ _ _
  generalize (w.alloc (.cells #[.int .i64 T, .int .i64 k] 24)).alloc (.cells #[.slice none 0 0, .slice none 0 0, .slice none 0 0, .slice none 0 0] 39) = w0 at hb0 hr0 ⊢
  have hz0 := hb0.size
  refine (HN.out w0).mono ?_
  rintro e w1 ⟨M, rfl, hM1, hb1⟩
  have hr1 := hr0.below hb1 hr0.lt
  have HM1 := Lib.hid hM1
  have HR1 := Lib.hid hr1
  have HB1 : Hid (Below w.heap.size w w1) := hb0.trans (hb1.mono hz0)
  have hrl := hr0.lt
  clear hM1 hr1 hb1 hr0 hb0
  go_wp2_with fail
  go_loopg [25] ms.length (fun gk i wr => ∃ (j : Nat) (M' : ML), j + gk = ms.length ∧ i = .int .i64 j ∧ M'.x = M.x ∧ Hid (Below w0.heap.size w1 wr) ∧ Hid (MM wr w0.heap.size M' ((mc0 k T).moves_ (ms.take j))))
  case atStart => exact ⟨0, M, by omega, rfl, rfl, Below.refl _ _, HM1.out⟩
  case round =>
    obtain ⟨j, M', hj, rfl, hx, hB, hM⟩ := hrel
    by_cases hlt : j < ms.length
    · obtain ⟨v, hv⟩ := at_lt hlt
      have e1 : (j : Int) < ms.length := by omega
      have e0 : (0 : Int) ≤ j := by omega
      have hbw : Below w.heap.size w wr := HB1.out.trans (hB.out.mono (by omega))
      have hs := (HS.out.below hbw).2 (by omega)
      obtain ⟨b, o, hA, hbl, hcell⟩ := hs
      have v0 : wr.cell? ⟨b, o + j * 4, none⟩ = some (.int .i64 v.th) := by have := hcell (j * 4 + 0) _ (moVals_get hv 0 (by omega)); simpa using this
      have v1 : wr.cell? ⟨b, o + j * 4 + 1, none⟩ = some (.int .i64 v.op) := by have := hcell (j * 4 + 1) _ (moVals_get hv 1 (by omega)); rw [← Nat.add_assoc] at this; exact this
      have v2 : wr.cell? ⟨b, o + j * 4 + 2, none⟩ = some (.int .i64 v.arg) := by have := hcell (j * 4 + 2) _ (moVals_get hv 2 (by omega)); rw [← Nat.add_assoc] at this; exact this
      have v3 : wr.cell? ⟨b, o + j * 4 + 3, none⟩ = some (.int .i64 v.dat) := by have := hcell (j * 4 + 3) _ (moVals_get hv 3 (by omega)); rw [← Nat.add_assoc] at this; exact this
      have hop := HO.out v (List.mem_of_getElem? hv)
      have hzr := hbw.size
      have hwr : w0.heap.size ≤ wr.heap.size := by obtain ⟨_, _, _, hx9⟩ := hM.out.xb; exact Nat.le_trans hM.out.bx (Nat.le_of_lt hx9.lt)
      subst hA
      have HV := Lib.hid hv
      have hbe : b < wr.heap.size := by omega
      clear hcell hv hbw
      go_wp2_with fail
      have hB2 : Below w0.heap.size w1 (wr.alloc (.cells #[.int .i64 v.th, .int .i64 v.op, .int .i64 v.arg, .int .i64 v.dat] 78)) := hB.out.alloc hwr _
      have hM2 := hM.out.on (W' := wr.alloc (.cells #[.int .i64 v.th, .int .i64 v.op, .int .i64 v.arg, .int .i64 v.dat] 78)) ((Below.refl _ _).alloc (Nat.le_refl _) _)
      have hcall := move_any (by rw [moves_kd]; exact K) hM2 v hop
      rw [hx] at hcall
      refine hcall.mono ?_
      rintro e w3 ⟨rfl, ⟨M3, hx3, hM3⟩, hb3⟩
      have HM3 := Lib.hid hM3
      have HB3 := Lib.hid (hB2.trans hb3.low)
      clear hcall hM2 hB2 hM3 hb3
      go_wp2_with fail
      go_roundg (gk - 1)
      case measure => omega
      case rel =>
        refine ⟨j + 1, M3, by omega, by go_num, hx3.trans hx, HB3.out, ?_⟩
        rw [take_snoc HV.out, moves_snoc]
        exact HM3.out
    · obtain rfl : j = ms.length := by omega
      rw [List.take_length] at hM
      have hbw : Below w.heap.size w wr := HB1.out.trans (hB.out.mono (by omega))
      have HBw := Lib.hid hbw
      have hwr : w0.heap.size ≤ wr.heap.size := by obtain ⟨_, _, _, hx9⟩ := hM.out.xb; exact Nat.le_trans hM.out.bx (Nat.le_of_lt hx9.lt)
      have hr9 : Blk wr (w.heap.size + 1) 39 _ := HR1.out.below hB.out hrl
      have hcall := run_any hM.out hlim
      rw [hx] at hcall
      have HC := Lib.hid hcall
      have HR9 := Lib.hid hr9
      clear hcall hr9 hbw
      go_wp2_with fail
      refine HC.out.mono ?_
      rintro e w3 ⟨Aq, kc, At, kt, Aw, kw, rfl, o1, o2, o3, hb3⟩
      have hr3 := HR9.out.below hb3 HR9.out.lt
      have r0 : w3.cell? ⟨w.heap.size + 1, 0, none⟩ = some (.slice none 0 0) := hr3.cell rfl
      have r1 : w3.cell? ⟨w.heap.size + 1, 1, none⟩ = some (.slice none 0 0) := hr3.cell rfl
      have r2 : w3.cell? ⟨w.heap.size + 1, 2, none⟩ = some (.slice none 0 0) := hr3.cell rfl
      have r3 : w3.cell? ⟨w.heap.size + 1, 3, none⟩ = some (.slice none 0 0) := hr3.cell rfl
      have g0 := hr3.frozen 0
      have g1 := hr3.frozen 1
      have g2 := hr3.frozen 2
      have g3 := hr3.frozen 3
      have H3 := Lib.hid hr3
      have O1 := Lib.hid o1
      have O2 := Lib.hid o2
      have O3 := Lib.hid o3
      have HB3 := Lib.hid hb3
      clear hr3 o1 o2 o3 hb3
      go_wp2_with fail
      have i5 := H3.out
      have nt := own_blk_ne O2.out i5 (by decide)
      have nc := own_blk_ne O1.out i5 (by decide)
      have nw := own_blk_ne O3.out i5 (by decide)
      have hbw9 : w.heap.size ≤ wr.heap.size := by omega
      refine bodyPost_ret_by (results_cell_rowp rfl _ _ (w.heap.size + 1) 39 #[.slice Aq ((mc0 k T).moves_ ms).calls.length kc, .slice At ((mc0 k T).moves_ ms).log.length kt, .slice none 0 0, .slice Aw ((mc0 k T).moves_ ms).words.length kw] (0, 0) _ rfl ((((i5.set_ 0 _).set_ 1 _).set_ 2 _).set_ 3 _) Try.underlying39 rfl size_run) rfl ?_
      exact ⟨Aq, kc, At, kt, Aw, kw, rfl,
        own_low9 (own_setf (own_setf (own_setf (own_setf O1.out (p := ⟨w.heap.size + 1, 0, none⟩) nc _) (p := ⟨w.heap.size + 1, 1, none⟩) nc _) (p := ⟨w.heap.size + 1, 2, none⟩) nc _) (p := ⟨w.heap.size + 1, 3, none⟩) nc _) hbw9,
        own_low9 (own_setf (own_setf (own_setf (own_setf O2.out (p := ⟨w.heap.size + 1, 0, none⟩) nt _) (p := ⟨w.heap.size + 1, 1, none⟩) nt _) (p := ⟨w.heap.size + 1, 2, none⟩) nt _) (p := ⟨w.heap.size + 1, 3, none⟩) nt _) hbw9,
        own_low9 (own_setf (own_setf (own_setf (own_setf O3.out (p := ⟨w.heap.size + 1, 0, none⟩) nw _) (p := ⟨w.heap.size + 1, 1, none⟩) nw _) (p := ⟨w.heap.size + 1, 2, none⟩) nw _) (p := ⟨w.heap.size + 1, 3, none⟩) nw _) hbw9,
        ((((HBw.out.trans (HB3.out.mono hbw9)).setCell (p := ⟨w.heap.size + 1, 0, none⟩) (by dsimp only; omega) _).setCell (p := ⟨w.heap.size + 1, 1, none⟩) (by dsimp only; omega) _).setCell (p := ⟨w.heap.size + 1, 2, none⟩) (by dsimp only; omega) _).setCell (p := ⟨w.heap.size + 1, 3, none⟩) (by dsimp only; omega) _⟩
end Go.Proofs.Ytjnmlgfkiebkgaa
