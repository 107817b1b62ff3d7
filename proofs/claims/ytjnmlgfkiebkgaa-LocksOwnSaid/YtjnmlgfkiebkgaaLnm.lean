/-
  slices.Clone of words, memory.New, machine.New: what they lay.
-/
import Derived.Test.YtjnmlgfkiebkgaaLmb
import Derived.Test.YtjnmlgfkiebkgaaLwd
import Derived.Deep.LoopGhost
import Derived.WalkSpells
import Derived.Maps.Own
import Derived.Maps.OwnOps
import Derived.OwnWalk
import Derived.Deep.RegionWith
namespace Go.Proofs.Ytjnmlgfkiebkgaa
open Go.RowKit
set_option linter.unusedVariables false
set_option linter.unusedSimpArgs false

theorem w_ones (l : List Int) : ∀ u ∈ u64s l, u.oneCell' = true := by
  intro u hu
  unfold u64s at hu
  obtain ⟨x, _, rfl⟩ := List.mem_map.1 hu
  rfl
/-- words in new memory -/
def ClonR (l : List Int) (w : World) (e : Ending) (w' : World) : Prop := ∃ A k, e = .returned (.slice A l.length k) ∧ w'.ownsRow w.heap.size 34 1 (.slice A l.length k) l.length (u64s l) ∧ Below w.heap.size w w'
set_option maxRecDepth 100000 in
set_option maxHeartbeats 4000000 in
theorem clonw_any (b k : Nat) (l : List Int) (w : World) (h : Sl w w.heap.size 1 (some ⟨b, 0, none⟩) l.length (u64s l)) (hn : l.length ≤ 8192) :
    Calls Try.prog 59 #[.slice (some ⟨b, 0, none⟩) l.length k] w (ClonR l w) := by
  obtain ⟨i1, hi1, hi1z, hi1s, hi1b⟩ := info_parts info_wz
  have HS := Lib.hid h
  clear h
  have qT : ∀ (w : World) (a : Option Addr) (n c : Nat), (binOp .eql 27 (.slice a n c) (.slice none 0 0)).run Try.prog w = .ok (.bool a.isNone) w := fun w a n c => Lib.run_eql_slice_nil w _ _ a n c 0 0 Try.underlying27
  go_enter Try.func59, Try.ntmps59
  go_wp2_with (at_builtin; go_must (refine wpList_app0 _ rfl _ _ 27 rfl w.heap.size 34 i1 (.int .u64 0) 1 8 Try.underlying27 hi1 hi1z hi1s hi1b rfl (by decide) (some ⟨w.heap.size, 0, none⟩) rfl (made_e w 34 1 (Nat.le_refl _)) w.heap.size (some ⟨b, 0, none⟩) l.length k (u64s l) rfl (HS.out.below ((Below.refl _ _).alloc (Nat.le_refl _) _)) (w_ones l) (by simp only [maxLen]; omega) (by omega) (by simp) ?_; intro A7 k7 w7 hown7 hb7 hA7 hk7 hk8))
  go_ret
  exact ⟨A7, k7, rfl, hown7, ((Below.refl _ _).alloc (Nat.le_refl _) _).trans (hb7.mono (by simp))⟩

def MnewR (l : List Int) (w : World) (e : Ending) (w' : World) : Prop :=
  ∃ y wb wk, e = .returned (.tuple #[.pointer (some ⟨y, 0, none⟩), .int .i64 0]) ∧ Blk w' y 170 [.slice (some ⟨wb, 0, none⟩) l.length wk, .slice none 0 0, .slice none 0 0, .int .i64 0] ∧ Rw w' wb 34 1 l.length wk (u64s l) ∧ w.heap.size ≤ y ∧ w.heap.size ≤ wb ∧ Below w.heap.size w w'
set_option maxRecDepth 100000 in
set_option maxHeartbeats 4000000 in
theorem mnew_any (b k : Nat) (l : List Int) (w : World) (h : Sl w w.heap.size 1 (some ⟨b, 0, none⟩) l.length (u64s l)) (hn : l.length ≤ 8192) (h1 : 1 ≤ l.length) :
    Calls Try.prog 57 #[.slice (some ⟨b, 0, none⟩) l.length k] w (MnewR l w) := by
  have HS := Lib.hid h
  have hn' : (l.length : Int) ≤ 8192 := by omega
  have d1 : decide ((8192 : Int) < l.length) = false := by simp; omega
  have d2 : ¬ (8192 : Int) < l.length := by omega
  clear h
  go_enter Try.func57, Try.ntmps57
  go_wp2_with fail
  refine (clonw_any b k l _ HS.out hn).mono ?_
  rintro e w1 ⟨A1, k1, rfl, ho1, hb1⟩
  obtain ⟨wb, rfl, hwb, hr⟩ := Rw.of_own ho1 h1
  go_wp2_with fail
  go_ret2
  exact ⟨w1.heap.size, wb, k1, rfl, Blk.new _ _ _, hr.alloc _, hb1.size, hwb, hb1.alloc hb1.size _⟩

theorem info_ms : (Try.prog.info? 128).map (fun i => (i.zero, i.size, i.bytes)) = some (some (.agg #[.nilIface, .bool false, .int .i64 0, .int .i64 0, .int .i64 0]), 5, 48) := by kernel_rfl
abbrev msL : List Value := [.nilIface, .bool false, .int .i64 (-1), .int .i64 0, .int .i64 0]
theorem ms_one : ∀ u ∈ msL, u.oneCell' = true := by decide
def msV (n : Nat) : List Value := (List.replicate n msL).flatten
theorem msV_snoc (n : Nat) : msV n ++ msL = msV (n + 1) := by
  unfold msV
  rw [List.replicate_succ', List.flatten_append]
  simp
structure NwR (l : List Int) (T kb B : Nat) (w' : World) (x y wb wk sg sk : Nat) : Prop where
  xb : Blk w' x 126 [.pointer (some ⟨y, 0, none⟩), .int .i64 0, .int .i64 0, .pointer none, .pointer none, .bool false, .slice none 0 0, .map (some kb), .slice (some ⟨sg, 0, none⟩) T sk, .int .i64 0, .slice none 0 0]
  yb : Blk w' y 170 [.slice (some ⟨wb, 0, none⟩) l.length wk, .slice none 0 0, .slice none 0 0, .int .i64 0]
  wr : Rw w' wb 34 1 l.length wk (u64s l)
  se : Rw w' sg 128 5 T sk (msV T)
  bx : B ≤ x
  by_ : B ≤ y
  bw : B ≤ wb
  bs : B ≤ sg
set_option maxRecDepth 100000 in
set_option maxHeartbeats 4000000 in
theorem mmew_any (T b k : Nat) (l : List Int) (kb : Nat) (w : World) (hT : 1 ≤ T ∧ T ≤ 16) (h : Sl w w.heap.size 1 (some ⟨b, 0, none⟩) l.length (u64s l)) (hn : l.length ≤ 8192) (h1 : 1 ≤ l.length) :
    Calls Try.prog 43 #[.int .i64 T, .slice (some ⟨b, 0, none⟩) l.length k, .map (some kb)] w (fun e w' => ∃ x y wb wk sg sk, e = .returned (.tuple #[.pointer (some ⟨x, 0, none⟩), .int .i64 0]) ∧ NwR l T kb w.heap.size w' x y wb wk sg sk ∧ Below w.heap.size w w') := by
  obtain ⟨i1, hi1, hi1z, hi1s, hi1b⟩ := info_parts info_ms
  have HS := Lib.hid h
  have d1 : decide ((T : Int) < 1) = false := by simp; omega
  have d2 : ¬ (T : Int) < 1 := by omega
  have d3 : decide ((16 : Int) < T) = false := by simp; omega
  have d4 : ¬ (16 : Int) < T := by omega
  have hT1 : T ≤ 16 := by omega
  have hT0 : 1 ≤ T := hT.1
  clear h
  go_enter Try.func43, Try.ntmps43
  go_wp2_with fail
  refine (mnew_any b k l _ HS.out hn h1).mono ?_
  rintro e w1 ⟨y, wb, wk, rfl, hy1, hr1, hyB, hwB, hb1⟩
  have hz1 := hb1.size
  have HY1 := Lib.hid hy1
  have HR1 := Lib.hid hr1
  clear hy1 hr1
  go_wp2_with fail
  go_loopg [31] T (fun gk i wr => ∃ (j : Nat) (v : Value), j + gk = T ∧ i = .int .i64 j ∧ Below w1.heap.size w1 wr ∧ Hid (Blk wr w1.heap.size 126 [.pointer (some ⟨y, 0, none⟩), .int .i64 0, .int .i64 0, .pointer none, .pointer none, .bool false, .slice none 0 0, .map (some kb), v, .int .i64 0, .slice none 0 0]) ∧ Hid (wr.ownsRow (w1.heap.size + 1) 128 5 v j (msV j)))
  case atStart => exact ⟨0, .slice none 0 0, by omega, rfl, (Below.refl _ _).alloc (Nat.le_refl _) _, Blk.new _ _ _, World.ownsRow_nil _ _ _ _⟩
  case round =>
    obtain ⟨j, v, hj, rfl, hbr, HB, HO⟩ := hrel
    have hzr := hbr.size
    by_cases hlt : j < T
    · have e1 : (j : Int) < T := by omega
      have e0 : (0 : Int) ≤ j := by omega
      have hgl := HB.out.lt
      have c8 : wr.cell? ⟨w1.heap.size, 8, none⟩ = some v := HB.out.cell rfl
      go_upto_region 9 with fail
      go_wp2_with (at_builtin; go_must (refine wpList_app _ rfl _ _ 124 rfl (w1.heap.size + 1) 128 i1 (.agg #[.nilIface, .bool false, .int .i64 0, .int .i64 0, .int .i64 0]) 5 48 Try.underlying124 hi1 hi1z hi1s hi1b rfl (by decide) v j (msV j) rfl (HO.out.alloc _) (wr.heap.size + 1) (some ⟨wr.heap.size, 0, none⟩) 1 1 msL rfl (((Blk.new wr 128 _).sl rfl).up (by simp)) ms_one (j + 1) rfl _ rfl _ rfl (by simp only [maxLen]; omega) (by omega) (by rw [World.size_alloc]; omega) ?_; intro A7 k7 w7 hown7 hg7 hat7 hk7 hk8; have c9 : w7.cell? ⟨w1.heap.size, 8, none⟩ = some v := ((HB.out.alloc _).grown hg7 (fun he => by have := (HO.out.lt _ he.symm).1; omega)).cell rfl; have f9 := ((HB.out.alloc (.cells #[.nilIface, .bool false, .int .i64 (-1), .int .i64 0, .int .i64 0] 128)).grown hg7 (fun he => by have := (HO.out.lt _ he.symm).1; omega)).frozen 8))
      have hne : some w1.heap.size ≠ v.ownBlock := fun he => by have := (HO.out.lt _ he.symm).1; omega
      have hB7 := (HB.out.alloc (.cells #[.nilIface, .bool false, .int .i64 (-1), .int .i64 0, .int .i64 0] 128)).grown hg7 hne
      have hb7 : Below w1.heap.size w1 w7 := (hbr.alloc hzr _).grown hg7 (by rw [World.size_alloc]; omega) (fun q hq => by have := (HO.out.lt q hq).1; omega)
      rw [msV_snoc] at hown7
      go_roundg (gk - 1)
      case measure => omega
      case rel =>
        refine ⟨j + 1, .slice A7 (j + 1) k7, by omega, by go_num, hb7.setCell (Nat.le_refl _) _, hB7.set_ 8 _, ?_⟩
        exact own_setf hown7 (fun he => by have := (hown7.lt _ he.symm).1; dsimp only at this; omega) _
    · obtain rfl : j = T := by omega
      obtain ⟨Av, kv, hvv, _, _⟩ := own_form HO.out
      subst hvv
      obtain ⟨sg, rfl, hsB, hsr⟩ := Rw.of_own HO.out hT0
      have HSr := Lib.hid hsr
      clear hsr
      go_wp2_with fail
      go_ret2
      exact ⟨w1.heap.size, y, wb, wk, sg, kv, rfl, ⟨HB.out, HY1.out.below hbr HY1.out.lt, HR1.out.below hbr HR1.out.lt, HSr.out, hz1, hyB, hwB, by omega⟩, hb1.trans (hbr.mono hz1)⟩
end Go.Proofs.Ytjnmlgfkiebkgaa
