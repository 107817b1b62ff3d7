/-
One operation of a held region taken: the first that is not 
-/
import Derived.Deep.RegionHeld3
import Derived.Test.YtgjdgapfnfhklaaGreatZ24
import Derived.BigQuiet
set_option linter.unusedSimpArgs false
set_option linter.unusedVariables false
set_option maxHeartbeats 4000000
namespace Go.Proofs.YtgjdgapfnfhklaaGreat
open Go.RowKit
def nxtF (lo : Nat) (listed : Array Bool) : Option Nat := (List.range listed.size).find? fun i => decide (lo <= i) && !listed.getD i true
section
variable {P : Program} {md : Region.Mode} {ops : Array Oper} {Q : Exit -> Act -> World -> Prop} {S : World -> Prop}
theorem ti {i : Nat} {o : Oper} (h : ops.toList[i]? = some o) : ops[i]? = some o := by rwa [Array.getElem?_toList] at h
theorem tkF (lo : Nat) {i : Nat} {oi : Oper} {v : Value} {fuel : Nat} {listed : Array Bool} {a : Act} {w : World} (hy : ∀ W, S W -> (execOp a.eval oi).run P W = .ok (.value v) W) (h : wpAnyH P md ops Q S fuel (listed.setIfInBounds i true) (a.put oi.dst v) w) (hn : nxtF lo listed = some i := by rfl) (hi : ops.toList[i]? = some oi := by rfl)
  (hw : Region.wanted oi (yielded ops a.tmps) = true := by rfl) (hs : Region.noSelect ops = true := by kernel_rfl) (hf : Region.free md ops listed i = true := by kernel_rfl) (hr : (Region.ready md ops listed).contains i = true := by kernel_rfl)
  (hQ : ∀ c a w, Q (.panic c) (a.put oi.dst v) w -> Q (.panic c) a w := by exact fun _ _ _ h => h) (hS : S w := by assumption) : wpAnyH P md ops Q S (fuel + 1) listed a w :=
 wpAnyH_take (ti hi) hs hf hr hQ (Or.inl ⟨hw, hy⟩) hS h
theorem rd1 (i : Nat) {o : Oper} {fuel : Nat} {listed : Array Bool} {a : Act} {w : World} (h : ∀ K : Act -> World -> Prop, Shut (∀ a' w', S w' -> (S w' -> wpAnyH P md ops Q S fuel (listed.setIfInBounds i true) a' w') -> K a' w') -> if Region.wanted o (yielded ops a.tmps) then o.wp P a w K Q else K (a.put o.dst undef) w)
  (hi : ops.toList[i]? = some o := by rfl) (hr : (Region.ready md ops listed == [i]) = true := by kernel_rfl) : wpAnyH P md ops Q S (fuel + 1) listed a w :=
 wpAnyH_ready (eq_of_beq hr) (by simp) (AllReadyH.cons (ti hi) h AllReadyH.nil)
theorem rd (i : Nat) {o : Oper} {fuel : Nat} {listed : Array Bool} {a : Act} {w : World} (h : ∀ K : Act -> World -> Prop, Shut (∀ a' w', S w' -> (S w' -> wpAnyH P md ops Q S fuel (listed.setIfInBounds i true) a' w') -> K a' w') -> o.wp P a w K Q)
  (hi : ops.toList[i]? = some o := by rfl) (hr : (Region.ready md ops listed == [i]) = true := by kernel_rfl) (hw : Region.wanted o (yielded ops a.tmps) = true := by rfl) : wpAnyH P md ops Q S (fuel + 1) listed a w :=
 rd1 i (fun K hK => by rw [if_pos hw]; exact h K hK) hi hr
theorem rd2 (i j : Nat) {oi oj : Oper} {fuel : Nat} {listed : Array Bool} {a : Act} {w : World} (hi : ∀ K : Act -> World -> Prop, Shut (∀ a' w', S w' -> (S w' -> wpAnyH P md ops Q S fuel (listed.setIfInBounds i true) a' w') -> K a' w') -> oi.wp P a w K Q) (hj : ∀ K : Act -> World -> Prop, Shut (∀ a' w', S w' -> (S w' -> wpAnyH P md ops Q S fuel (listed.setIfInBounds j true) a' w') -> K a' w') -> oj.wp P a w K Q)
  (ei : ops.toList[i]? = some oi := by rfl) (wi : Region.wanted oi (yielded ops a.tmps) = true := by rfl) (ej : ops.toList[j]? = some oj := by rfl) (wj : Region.wanted oj (yielded ops a.tmps) = true := by rfl) (hr : (Region.ready md ops listed == [i, j]) = true := by kernel_rfl) : wpAnyH P md ops Q S (fuel + 1) listed a w :=
 wpAnyH_ready (eq_of_beq hr) (by simp) (AllReadyH.cons (ti ei) (fun K hK => by rw [if_pos wi]; exact hi K hK) (AllReadyH.cons (ti ej) (fun K hK => by rw [if_pos wj]; exact hj K hK) AllReadyH.nil))
theorem rd3 (i j k : Nat) {oi oj ok : Oper} {fuel : Nat} {listed : Array Bool} {a : Act} {w : World} (hi : ∀ K : Act -> World -> Prop, Shut (∀ a' w', S w' -> (S w' -> wpAnyH P md ops Q S fuel (listed.setIfInBounds i true) a' w') -> K a' w') -> oi.wp P a w K Q) (hj : ∀ K : Act -> World -> Prop, Shut (∀ a' w', S w' -> (S w' -> wpAnyH P md ops Q S fuel (listed.setIfInBounds j true) a' w') -> K a' w') -> oj.wp P a w K Q) (hk : ∀ K : Act -> World -> Prop, Shut (∀ a' w', S w' -> (S w' -> wpAnyH P md ops Q S fuel (listed.setIfInBounds k true) a' w') -> K a' w') -> ok.wp P a w K Q)
  (ei : ops.toList[i]? = some oi := by rfl) (wi : Region.wanted oi (yielded ops a.tmps) = true := by rfl) (ej : ops.toList[j]? = some oj := by rfl) (wj : Region.wanted oj (yielded ops a.tmps) = true := by rfl) (ek : ops.toList[k]? = some ok := by rfl) (wk : Region.wanted ok (yielded ops a.tmps) = true := by rfl) (hr : (Region.ready md ops listed == [i, j, k]) = true := by kernel_rfl) : wpAnyH P md ops Q S (fuel + 1) listed a w :=
 wpAnyH_ready (eq_of_beq hr) (by simp) (AllReadyH.cons (ti ei) (fun K hK => by rw [if_pos wi]; exact hi K hK) (AllReadyH.cons (ti ej) (fun K hK => by rw [if_pos wj]; exact hj K hK) (AllReadyH.cons (ti ek) (fun K hK => by rw [if_pos wk]; exact hk K hK) AllReadyH.nil)))
theorem rd4 (i j k l : Nat) {oi oj ok ol : Oper} {fuel : Nat} {listed : Array Bool} {a : Act} {w : World} (hi : ∀ K : Act -> World -> Prop, Shut (∀ a' w', S w' -> (S w' -> wpAnyH P md ops Q S fuel (listed.setIfInBounds i true) a' w') -> K a' w') -> oi.wp P a w K Q) (hj : ∀ K : Act -> World -> Prop, Shut (∀ a' w', S w' -> (S w' -> wpAnyH P md ops Q S fuel (listed.setIfInBounds j true) a' w') -> K a' w') -> oj.wp P a w K Q) (hk : ∀ K : Act -> World -> Prop, Shut (∀ a' w', S w' -> (S w' -> wpAnyH P md ops Q S fuel (listed.setIfInBounds k true) a' w') -> K a' w') -> ok.wp P a w K Q) (hl : ∀ K : Act -> World -> Prop, Shut (∀ a' w', S w' -> (S w' -> wpAnyH P md ops Q S fuel (listed.setIfInBounds l true) a' w') -> K a' w') -> ol.wp P a w K Q)
  (ei : ops.toList[i]? = some oi := by rfl) (wi : Region.wanted oi (yielded ops a.tmps) = true := by rfl) (ej : ops.toList[j]? = some oj := by rfl) (wj : Region.wanted oj (yielded ops a.tmps) = true := by rfl) (ek : ops.toList[k]? = some ok := by rfl) (wk : Region.wanted ok (yielded ops a.tmps) = true := by rfl) (el : ops.toList[l]? = some ol := by rfl) (wl : Region.wanted ol (yielded ops a.tmps) = true := by rfl) (hr : (Region.ready md ops listed == [i, j, k, l]) = true := by kernel_rfl) : wpAnyH P md ops Q S (fuel + 1) listed a w :=
 wpAnyH_ready (eq_of_beq hr) (by simp) (AllReadyH.cons (ti ei) (fun K hK => by rw [if_pos wi]; exact hi K hK) (AllReadyH.cons (ti ej) (fun K hK => by rw [if_pos wj]; exact hj K hK) (AllReadyH.cons (ti ek) (fun K hK => by rw [if_pos wk]; exact hk K hK) (AllReadyH.cons (ti el) (fun K hK => by rw [if_pos wl]; exact hl K hK) AllReadyH.nil))))
structure W1 (p : Prop) : Prop where
 h : p
theorem rw1 (i : Nat) {oi : Oper} {fuel : Nat} {listed : Array Bool} {a : Act} {w : World} (hi : ∀ K : Act -> World -> Prop, Shut (∀ a' w', S w' -> (S w' -> wpAnyH P md ops Q S fuel (listed.setIfInBounds i true) a' w') -> K a' w') -> W1 (oi.wp P a w K Q)) (ei : ops.toList[i]? = some oi := by rfl) (wi : Region.wanted oi (yielded ops a.tmps) = true := by rfl) (hr : (Region.ready md ops listed == [i]) = true := by kernel_rfl) : wpAnyH P md ops Q S (fuel + 1) listed a w :=
 rd i (fun K hK => (hi K hK).h) ei hr wi
theorem rw2 (i j : Nat) {oi oj : Oper} {fuel : Nat} {listed : Array Bool} {a : Act} {w : World} (hi : ∀ K : Act -> World -> Prop, Shut (∀ a' w', S w' -> (S w' -> wpAnyH P md ops Q S fuel (listed.setIfInBounds i true) a' w') -> K a' w') -> W1 (oi.wp P a w K Q)) (hj : ∀ K : Act -> World -> Prop, Shut (∀ a' w', S w' -> (S w' -> wpAnyH P md ops Q S fuel (listed.setIfInBounds j true) a' w') -> K a' w') -> W1 (oj.wp P a w K Q)) (ei : ops.toList[i]? = some oi := by rfl) (wi : Region.wanted oi (yielded ops a.tmps) = true := by rfl) (ej : ops.toList[j]? = some oj := by rfl) (wj : Region.wanted oj (yielded ops a.tmps) = true := by rfl) (hr : (Region.ready md ops listed == [i, j]) = true := by kernel_rfl) : wpAnyH P md ops Q S (fuel + 1) listed a w :=
 rd2 i j (fun K hK => (hi K hK).h) (fun K hK => (hj K hK).h) ei wi ej wj hr
theorem rw3 (i j k : Nat) {oi oj ok : Oper} {fuel : Nat} {listed : Array Bool} {a : Act} {w : World} (hi : ∀ K : Act -> World -> Prop, Shut (∀ a' w', S w' -> (S w' -> wpAnyH P md ops Q S fuel (listed.setIfInBounds i true) a' w') -> K a' w') -> W1 (oi.wp P a w K Q)) (hj : ∀ K : Act -> World -> Prop, Shut (∀ a' w', S w' -> (S w' -> wpAnyH P md ops Q S fuel (listed.setIfInBounds j true) a' w') -> K a' w') -> W1 (oj.wp P a w K Q)) (hk : ∀ K : Act -> World -> Prop, Shut (∀ a' w', S w' -> (S w' -> wpAnyH P md ops Q S fuel (listed.setIfInBounds k true) a' w') -> K a' w') -> W1 (ok.wp P a w K Q)) (ei : ops.toList[i]? = some oi := by rfl) (wi : Region.wanted oi (yielded ops a.tmps) = true := by rfl) (ej : ops.toList[j]? = some oj := by rfl) (wj : Region.wanted oj (yielded ops a.tmps) = true := by rfl) (ek : ops.toList[k]? = some ok := by rfl) (wk : Region.wanted ok (yielded ops a.tmps) = true := by rfl) (hr : (Region.ready md ops listed == [i, j, k]) = true := by kernel_rfl) : wpAnyH P md ops Q S (fuel + 1) listed a w :=
 rd3 i j k (fun K hK => (hi K hK).h) (fun K hK => (hj K hK).h) (fun K hK => (hk K hK).h) ei wi ej wj ek wk hr
theorem rw4 (i j k l : Nat) {oi oj ok ol : Oper} {fuel : Nat} {listed : Array Bool} {a : Act} {w : World} (hi : ∀ K : Act -> World -> Prop, Shut (∀ a' w', S w' -> (S w' -> wpAnyH P md ops Q S fuel (listed.setIfInBounds i true) a' w') -> K a' w') -> W1 (oi.wp P a w K Q)) (hj : ∀ K : Act -> World -> Prop, Shut (∀ a' w', S w' -> (S w' -> wpAnyH P md ops Q S fuel (listed.setIfInBounds j true) a' w') -> K a' w') -> W1 (oj.wp P a w K Q)) (hk : ∀ K : Act -> World -> Prop, Shut (∀ a' w', S w' -> (S w' -> wpAnyH P md ops Q S fuel (listed.setIfInBounds k true) a' w') -> K a' w') -> W1 (ok.wp P a w K Q)) (hl : ∀ K : Act -> World -> Prop, Shut (∀ a' w', S w' -> (S w' -> wpAnyH P md ops Q S fuel (listed.setIfInBounds l true) a' w') -> K a' w') -> W1 (ol.wp P a w K Q)) (ei : ops.toList[i]? = some oi := by rfl) (wi : Region.wanted oi (yielded ops a.tmps) = true := by rfl) (ej : ops.toList[j]? = some oj := by rfl) (wj : Region.wanted oj (yielded ops a.tmps) = true := by rfl) (ek : ops.toList[k]? = some ok := by rfl) (wk : Region.wanted ok (yielded ops a.tmps) = true := by rfl) (el : ops.toList[l]? = some ol := by rfl) (wl : Region.wanted ol (yielded ops a.tmps) = true := by rfl) (hr : (Region.ready md ops listed == [i, j, k, l]) = true := by kernel_rfl) : wpAnyH P md ops Q S (fuel + 1) listed a w :=
 rd4 i j k l (fun K hK => (hi K hK).h) (fun K hK => (hj K hK).h) (fun K hK => (hk K hK).h) (fun K hK => (hl K hK).h) ei wi ej wj ek wk el wl hr
theorem st_w {o : Oper} {a : Act} {w : World} {K : Act -> World -> Prop} {Q : Exit -> Act -> World -> Prop} (ty : TypeId) (x y : Operand) (ho : o.op = .store ty x y) (g : Nat) (cells : Array Value) (hx : a.eval x = .pointer (some ⟨g, 0, none⟩)) (hy : a.eval y = .agg cells) (t : TypeId) (old : Array Value) (hg : w.heap[g]? = some (.cells old t (0, 0))) (hi : (P.info? ty).map (·.size) = some cells.size) (hold : old.size = cells.size) (h1 : cells.all (·.oneCell') = true) (h : K (a.put o.dst undef) (w.setRow g cells)) : W1 (o.wp P a w K Q) :=
 ⟨wp_store_row ty x y ho g cells hx hy t old hg hi hold h1 h⟩
end
end Go.Proofs.YtgjdgapfnfhklaaGreat
namespace Go.Proofs.YtgjdgapfnfhklaaGreat
open Go.RowKit
def IntR (v : Int) (w : World) (e : Ending) (w' : World) : Prop := e = .returned (.int .i64 v) /\ Below w.heap.size w w'
theorem many_cases (c : Cfg) (r : Int) : (r = 7 /\ manyF c r = c.buckets) ∨ (r = 8 /\ manyF c r = c.records) ∨ (r = 9 /\ manyF c r = c.records * c.hazards) ∨ (r = 10 /\ manyF c r = c.slots) ∨ (r = 11 /\ manyF c r = c.slots) ∨
  (r = 12 /\ manyF c r = c.slots) ∨ (r = 13 /\ manyF c r = c.slots) ∨ (r ≠ 7 /\ r ≠ 8 /\ r ≠ 9 /\ r ≠ 10 /\ r ≠ 11 /\ r ≠ 12 /\ r ≠ 13 /\ manyF c r = 1) := by
 by_cases h7 : r = 7
 ·subst h7; simp [manyF]
 by_cases h8 : r = 8
 ·subst h8; simp [manyF]
 by_cases h9 : r = 9
 ·subst h9; simp [manyF]
 by_cases h10 : r = 10
 ·subst h10; simp [manyF]
 by_cases h11 : r = 11
 ·subst h11; simp [manyF]
 by_cases h12 : r = 12
 ·subst h12; simp [manyF]
 by_cases h13 : r = 13
 ·subst h13; simp [manyF]
 simp [manyF, h7, h8, h9, h10, h11, h12, h13]
theorem wmany_any (c : Cfg) (h : OkC c) (r : Int) (w : World) : Calls Tryz.prog 98 #[cfgV c, .int .i64 r] w (IntR (manyF c r) w) := by
 have hp := manyF_pos h 9
 have hm : IntKind.i64.wrap (c.records * c.hazards) = c.records * c.hazards := by
  have : manyF c 9 = c.records * c.hazards := rfl
  exact IntWalk.i64_in _ (by omega)
 rcases many_cases c r with ⟨rfl, he⟩ | ⟨rfl, he⟩ | ⟨rfl, he⟩ | ⟨rfl, he⟩ | ⟨rfl, he⟩ | ⟨rfl, he⟩ | ⟨rfl, he⟩ | ⟨h7, h8, h9, h10, h11, h12, h13, he⟩
 all_goals (rw [he]; clear he h hp)
 case inr.inr.inr.inr.inr.inr.inr =>
  have b7 : (r == 7) = false := by simp [h7]
  have b8 : (r == 8) = false := by simp [h8]
  have b9 : (r == 9) = false := by simp [h9]
  have b10 : (r == 10) = false := by simp [h10]
  have b11 : (r == 11) = false := by simp [h11]
  have b12 : (r == 12) = false := by simp [h12]
  have b13 : (r == 13) = false := by simp [h13]
  clear h7 h8 h9 h10 h11 h12 h13
  go_enter Tryz.func98, Tryz.ntmps98
  go_wp2_with fail
  go_ret
  exact ⟨rfl, (Below.refl _ _).alloc (Nat.le_refl _) _⟩
 all_goals (
  go_enter Tryz.func98, Tryz.ntmps98
  go_wp2_with fail
  go_ret
  exact ⟨rfl, (Below.refl _ _).alloc (Nat.le_refl _) _⟩)
theorem rmany_any (c : Cfg) (h : OkC c) (r : Int) (w : World) : Calls Tryz.prog 35 #[cfgV c, .int .i64 r] w (IntR (manyF c r) w) := by
 have hp := manyF_pos h 9
 have hm : IntKind.i64.wrap (c.records * c.hazards) = c.records * c.hazards := by
  have : manyF c 9 = c.records * c.hazards := rfl
  exact IntWalk.i64_in _ (by omega)
 rcases many_cases c r with ⟨rfl, he⟩ | ⟨rfl, he⟩ | ⟨rfl, he⟩ | ⟨rfl, he⟩ | ⟨rfl, he⟩ | ⟨rfl, he⟩ | ⟨rfl, he⟩ | ⟨h7, h8, h9, h10, h11, h12, h13, he⟩
 all_goals (rw [he]; clear he h hp)
 case inr.inr.inr.inr.inr.inr.inr =>
  have b7 : (r == 7) = false := by simp [h7]
  have b8 : (r == 8) = false := by simp [h8]
  have b9 : (r == 9) = false := by simp [h9]
  have b10 : (r == 10) = false := by simp [h10]
  have b11 : (r == 11) = false := by simp [h11]
  have b12 : (r == 12) = false := by simp [h12]
  have b13 : (r == 13) = false := by simp [h13]
  clear h7 h8 h9 h10 h11 h12 h13
  go_enter Tryz.func35, Tryz.ntmps35
  go_wp2_with fail
  go_ret
  exact ⟨rfl, (Below.refl _ _).alloc (Nat.le_refl _) _⟩
 all_goals (
  go_enter Tryz.func35, Tryz.ntmps35
  go_wp2_with fail
  go_ret
  exact ⟨rfl, (Below.refl _ _).alloc (Nat.le_refl _) _⟩)
abbrev CfgAt (c : Cfg) (g : Nat) (W : World) : Prop := W.cell? ⟨g, 0, none⟩ = some (.int .i64 c.threads) /\ W.cell? ⟨g, 1, none⟩ = some (.int .i64 c.records) /\ W.cell? ⟨g, 2, none⟩ = some (.int .i64 c.hazards) /\
 W.cell? ⟨g, 3, none⟩ = some (.int .i64 c.retire) /\ W.cell? ⟨g, 4, none⟩ = some (.int .i64 c.cache) /\ W.cell? ⟨g, 5, none⟩ = some (.int .i64 c.slots) /\ W.cell? ⟨g, 6, none⟩ = some (.int .i64 c.buckets)
theorem cfgAt_of {c : Cfg} {g : Nat} {w W : World} (h : Blk w g 44 (cfgL c)) (hb : Below w.heap.size w W) : CfgAt c g W :=
 have h' := h.below hb h.lt
 ⟨h'.cell rfl, h'.cell rfl, h'.cell rfl, h'.cell rfl, h'.cell rfl, h'.cell rfl, h'.cell rfl⟩
def SizeR (c : Cfg) (w : World) (e : Ending) (w' : World) : Prop := e = .returned (.tuple #[.int .i64 (sumF c 13), .int .i64 0]) /\ Below w.heap.size w w'
theorem size_any (c : Cfg) (h : OkC c) (w : World) : Calls Tryz.prog 97 #[cfgV c] w (SizeR c w) := by
 have hok := (okC_iff c).2 h
 obtain ⟨w0, hw0⟩ : ∃ w0 : World, w0 = w.alloc (.cells #[.int .i64 c.threads, .int .i64 c.records, .int .i64 c.hazards, .int .i64 c.retire, .int .i64 c.cache, .int .i64 c.slots, .int .i64 c.buckets] 44) := ⟨_, rfl⟩
 have hb0 : Below w.heap.size w w0 := by rw [hw0]; exact (Below.refl _ _).alloc (Nat.le_refl _) _
 have h0 : Blk w0 w.heap.size 44 (cfgL c) := by rw [hw0]; exact Blk.new w 44 _
 have hz : w.heap.size <= w0.heap.size := hb0.size
 have HA : Hid (∀ W, Below w0.heap.size w0 W -> CfgAt c w.heap.size W) := fun W hB => cfgAt_of h0 hB
 have HW0 := Lh hw0
 clear hw0 h0
 obtain ⟨q0, q1, q2, q3, q4, q5, q6⟩ := HA.o w0 (Below.refl _ _)
 have HK := Lh hok
 clear hok
 go_enter Tryz.func97, Tryz.ntmps97
 go_upto_region 1 with fail
 rw [<- HW0.o]
 go_wp2_with fail
 refine (check_any c _).mono ?_
 unfold CheckR
 rw [HK.o]
 rintro e w1 ⟨rfl, hb1⟩
 have hz1 : w0.heap.size <= w1.heap.size := hb1.size
 clear q0 q1 q2 q3 q4 q5 q6
 go_wp2_with fail
 go_loopg [5, 6] 13 (fun g n i wr => ∃ j : Nat, j + g = 13 /\ i = .int .i64 ((j : Int) + 1) /\ n = .int .i64 (sumF c j) /\ Below w0.heap.size w0 wr)
 case atStart => exact ⟨0, by omega, rfl, rfl, hb1⟩
 case round =>
  obtain ⟨j, hj, rfl, rfl, hbr⟩ := hrel
  obtain ⟨q0, q1, q2, q3, q4, q5, q6⟩ := HA.o wr hbr
  by_cases hlt : j < 13
  ·have e1 : (j : Int) + 1 <= 13 := by omega
   have hs := sumF_le h j
   have hp := manyF_pos h ((j : Int) + 1)
   have hw1 : IntKind.i64.wrap (sumF c j + manyF c ((j : Int) + 1)) = sumF c j + manyF c ((j : Int) + 1) := IntWalk.i64_in _ (by omega)
   clear hs hp
   go_wp2_with fail
   refine (wmany_any c h ((j : Int) + 1) _).mono ?_
   rintro e w2 ⟨rfl, hb2⟩
   clear q0 q1 q2 q3 q4 q5 q6
   go_wp2_with fail
   go_roundg (gk - 1)
   case measure => omega
   case rel => exact ⟨j + 1, by omega, by go_num, rfl, hbr.trans (hb2.mono hbr.size)⟩
  ·obtain rfl : j = 13 := by omega
   go_wp2_with fail
   go_ret2
   exact ⟨rfl, hb0.trans (hbr.mono hz)⟩
theorem base_any (c : Cfg) (h : OkC c) (r : Nat) (hr : r <= 13) (w : World) : Calls Tryz.prog 12 #[cfgV c, .int .i64 ((r : Int) + 1)] w (IntR (sumF c r) w) := by
 obtain ⟨w0, hw0⟩ : ∃ w0 : World, w0 = w.alloc (.cells #[.int .i64 c.threads, .int .i64 c.records, .int .i64 c.hazards, .int .i64 c.retire, .int .i64 c.cache, .int .i64 c.slots, .int .i64 c.buckets] 44) := ⟨_, rfl⟩
 have hb0 : Below w.heap.size w w0 := by rw [hw0]; exact (Below.refl _ _).alloc (Nat.le_refl _) _
 have h0 : Blk w0 w.heap.size 44 (cfgL c) := by rw [hw0]; exact Blk.new w 44 _
 have hz : w.heap.size <= w0.heap.size := hb0.size
 have HA : Hid (∀ W, Below w0.heap.size w0 W -> CfgAt c w.heap.size W) := fun W hB => cfgAt_of h0 hB
 have HW0 := Lh hw0
 clear hw0 h0
 go_enter Tryz.func12, Tryz.ntmps12
 go_upto_region 1 with fail
 rw [<- HW0.o]
 go_wp2_with fail
 go_loopg [5, 6] r (fun g n i wr => ∃ j : Nat, j + g = r /\ i = .int .i64 ((j : Int) + 1) /\ n = .int .i64 (sumF c j) /\ Below w0.heap.size w0 wr)
 case atStart => exact ⟨0, by omega, rfl, rfl, Below.refl _ _⟩
 case round =>
  obtain ⟨j, hj, rfl, rfl, hbr⟩ := hrel
  obtain ⟨q0, q1, q2, q3, q4, q5, q6⟩ := HA.o wr hbr
  by_cases hlt : j < r
  ·have e1 : (j : Int) + 1 < (r : Int) + 1 := by omega
   have hs := sumF_le h j
   have hp := manyF_pos h ((j : Int) + 1)
   have hw1 : IntKind.i64.wrap (sumF c j + manyF c ((j : Int) + 1)) = sumF c j + manyF c ((j : Int) + 1) := IntWalk.i64_in _ (by omega)
   clear hs hp
   go_wp2_with fail
   refine (rmany_any c h ((j : Int) + 1) _).mono ?_
   rintro e w2 ⟨rfl, hb2⟩
   clear q0 q1 q2 q3 q4 q5 q6
   go_wp2_with fail
   go_roundg (gk - 1)
   case measure => omega
   case rel => exact ⟨j + 1, by omega, by go_num, rfl, hbr.trans (hb2.mono hbr.size)⟩
  ·obtain rfl : r = j := by omega
   go_wp2_with fail
   go_ret
   exact ⟨rfl, hb0.trans (hbr.mono hz)⟩
end Go.Proofs.YtgjdgapfnfhklaaGreat
