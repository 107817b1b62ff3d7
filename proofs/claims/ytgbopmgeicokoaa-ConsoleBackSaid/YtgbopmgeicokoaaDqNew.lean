/-
  deque.New, machine.New, memory.New: a fresh machine; what is asked is the error alone.
-/
import Derived.Test.YtgbopmgeicokoaaSmCk
import Derived.Test.YtgbopmgeicokoaaApp0
import Derived.Deep.LoopGhost
import Derived.WalkSpells
import Derived.Maps.Own
import Derived.Maps.OwnOps
import Derived.OwnWalk
import Derived.Deep.RegionWith
namespace Go.Proofs.Ytgbopmgeicokoaa
open Go.RowKit

theorem info_u64 : (Try.prog.info? 59).map (fun i => (i.zero, i.size, i.bytes)) = some (some (.int .u64 0), 1, 8) := by kernel_rfl
/-- a slice of one-cell values in new memory -/
def CloneR (n : Nat) (w : World) (e : Ending) (w' : World) : Prop := ∃ A k, e = .returned (.slice A n k) ∧ Below w.heap.size w w'

set_option maxRecDepth 100000 in
set_option maxHeartbeats 4000000 in
theorem clone_any (b o n k : Nat) (xs : List Value) (w : World) (h : Sl w w.heap.size 1 (some ⟨b, o, none⟩) n xs) (h1 : ∀ u ∈ xs, u.oneCell' = true) (hn : n ≤ 8192) :
    Calls Try.prog 164 #[.slice (some ⟨b, o, none⟩) n k] w (CloneR n w) := by
  obtain ⟨i1, hi1, hi1z, hi1s, hi1b⟩ := info_parts info_u64
  have HS := Lib.hid h
  have H1 := Lib.hid h1
  clear h h1
  have qT : ∀ (w : World) (a : Option Addr) (n c : Nat), (binOp .eql 34 (.slice a n c) (.slice none 0 0)).run Try.prog w = .ok (.bool a.isNone) w := fun w a n c => Lib.run_eql_slice_nil w _ _ a n c 0 0 Try.underlying34
  go_enter Try.func164, Try.ntmps164
  go_wp2_with (at_builtin; go_must (refine wpList_app0 _ rfl _ _ 34 rfl w.heap.size 59 i1 (.int .u64 0) 1 8 Try.underlying34 hi1 hi1z hi1s hi1b rfl (by decide) (some ⟨w.heap.size, 0, none⟩) rfl (made_e w 59 1 (Nat.le_refl _)) w.heap.size (some ⟨b, o, none⟩) n k xs rfl (HS.out.below ((Below.refl _ _).alloc (Nat.le_refl _) _)) H1.out (by simp only [maxLen]; omega) (by omega) (by simp) ?_; intro A7 k7 w7 hown7 hb7 hA7 hk7 hk8))
  go_ret
  exact ⟨A7, k7, rfl, ((Below.refl _ _).alloc (Nat.le_refl _) _).trans (hb7.mono (by simp))⟩

def MemR (w : World) (e : Ending) (w' : World) : Prop := ∃ g, e = .returned (.tuple #[.pointer (some ⟨g, 0, none⟩), .int .i64 0]) ∧ Below w.heap.size w w'
set_option maxRecDepth 100000 in
set_option maxHeartbeats 4000000 in
theorem memnew_any (b o n k : Nat) (xs : List Value) (w : World) (h : Sl w w.heap.size 1 (some ⟨b, o, none⟩) n xs) (h1 : ∀ u ∈ xs, u.oneCell' = true) (hn : n ≤ 8192) :
    Calls Try.prog 161 #[.slice (some ⟨b, o, none⟩) n k] w (MemR w) := by
  have HS := Lib.hid h
  have H1 := Lib.hid h1
  have hn' : (n : Int) ≤ 8192 := by omega
  have d1 : decide ((8192 : Int) < n) = false := by simp; omega
  have d2 : ¬ (8192 : Int) < n := by omega
  clear h h1
  go_enter Try.func161, Try.ntmps161
  go_wp2_with fail
  refine (clone_any b o n k xs _ HS.out H1.out hn).mono ?_
  rintro e w1 ⟨A1, k1, rfl, hb1⟩
  go_wp2_with fail
  go_ret2
  exact ⟨w1.heap.size, rfl, hb1.alloc hb1.size _⟩

theorem info_seat : (Try.prog.info? 326).map (fun i => (i.zero, i.size, i.bytes)) = some (some (.agg #[.nilIface, .bool false, .int .i64 0, .int .i64 0, .int .i64 0]), 5, 48) := by kernel_rfl
theorem seat_one : ∀ u ∈ [Value.nilIface, .bool false, .int .i64 (-1), .int .i64 0, .int .i64 0], u.oneCell' = true := by decide
/-- a machine's cells: its memory, its kit, its seats -/
abbrev machL (p m v : Value) : List Value := [p, .int .i64 0, .int .i64 0, .pointer none, .pointer none, .bool false, .slice none 0 0, m, v, .int .i64 0, .slice none 0 0]

set_option maxRecDepth 100000 in
set_option maxHeartbeats 4000000 in
theorem machnew_any (t : Int) (b o n k : Nat) (xs : List Value) (mb : Nat) (w : World) (ht : 1 ≤ t ∧ t ≤ 16) (h : Sl w w.heap.size 1 (some ⟨b, o, none⟩) n xs) (h1 : ∀ u ∈ xs, u.oneCell' = true) (hn : n ≤ 8192) :
    Calls Try.prog 149 #[.int .i64 t, .slice (some ⟨b, o, none⟩) n k, .map (some mb)] w (MemR w) := by
  obtain ⟨i1, hi1, hi1z, hi1s, hi1b⟩ := info_parts info_seat
  have HS := Lib.hid h
  have H1 := Lib.hid h1
  have d1 : decide (t < 1) = false := by simp; omega
  have d2 : ¬ t < 1 := by omega
  have d3 : decide (16 < t) = false := by simp; omega
  have d4 : ¬ 16 < t := by omega
  obtain ⟨T, hT⟩ : ∃ T : Nat, t = T := ⟨t.toNat, by omega⟩
  subst hT
  have hT1 : T ≤ 16 := by omega
  clear h h1 ht
  go_enter Try.func149, Try.ntmps149
  go_wp2_with fail
  refine (memnew_any b o n k xs _ HS.out H1.out hn).mono ?_
  rintro e w1 ⟨g, rfl, hb1⟩
  have hz1 := hb1.size
  go_wp2_with fail
  go_loopg [31] T (fun gk i wr => ∃ (j : Nat) (v : Value) (L : List Value), j + gk = T ∧ i = .int .i64 j ∧ Below w1.heap.size w1 wr ∧ Hid (Blk wr w1.heap.size 321 (machL (.pointer (some ⟨g, 0, none⟩)) (.map (some mb)) v)) ∧ Hid (wr.ownsRow (w1.heap.size + 1) 326 5 v j L))
  case atStart => exact ⟨0, .slice none 0 0, [], by omega, rfl, (Below.refl _ _).alloc (Nat.le_refl _) _, Blk.new _ _ _, World.ownsRow_nil _ _ _ _⟩
  case round =>
    obtain ⟨j, v, L, hj, rfl, hbr, HB, HO⟩ := hrel
    have hzr := hbr.size
    by_cases hlt : j < T
    · have e1 : (j : Int) < T := by omega
      have e0 : (0 : Int) ≤ j := by omega
      have hgl := HB.out.lt
      have c8 : wr.cell? ⟨w1.heap.size, 8, none⟩ = some v := HB.out.cell rfl
      go_upto_region 9 with fail
      go_wp2_with (at_builtin; go_must (refine wpList_app _ rfl _ _ 319 rfl (w1.heap.size + 1) 326 i1 (.agg #[.nilIface, .bool false, .int .i64 0, .int .i64 0, .int .i64 0]) 5 48 Try.underlying319 hi1 hi1z hi1s hi1b rfl (by decide) v j L rfl (HO.out.alloc _) (wr.heap.size + 1) (some ⟨wr.heap.size, 0, none⟩) 1 1 [.nilIface, .bool false, .int .i64 (-1), .int .i64 0, .int .i64 0] rfl (((Blk.new wr 326 _).sl rfl).up (by simp)) seat_one (j + 1) rfl _ rfl _ rfl (by simp only [maxLen]; omega) (by omega) (by rw [World.size_alloc]; omega) ?_; intro A7 k7 w7 hown7 hg7 hat7 hk7 hk8; have c9 : w7.cell? ⟨w1.heap.size, 8, none⟩ = some v := ((HB.out.alloc _).grown hg7 (fun he => by have := (HO.out.lt _ he.symm).1; omega)).cell rfl; have f9 := ((HB.out.alloc (.cells #[.nilIface, .bool false, .int .i64 (-1), .int .i64 0, .int .i64 0] 326)).grown hg7 (fun he => by have := (HO.out.lt _ he.symm).1; omega)).frozen 8))
      have hne : some w1.heap.size ≠ v.ownBlock := fun he => by have := (HO.out.lt _ he.symm).1; omega
      have hB7 := (HB.out.alloc (.cells #[.nilIface, .bool false, .int .i64 (-1), .int .i64 0, .int .i64 0] 326)).grown hg7 hne
      have hb7 : Below w1.heap.size w1 w7 := (hbr.alloc hzr _).grown hg7 (by rw [World.size_alloc]; omega) (fun q hq => by have := (HO.out.lt q hq).1; omega)
      go_roundg (gk - 1)
      case measure => omega
      case rel =>
        refine ⟨j + 1, .slice A7 (j + 1) k7, L ++ [.nilIface, .bool false, .int .i64 (-1), .int .i64 0, .int .i64 0], by omega, by go_num, hb7.setCell (Nat.le_refl _) _, hB7.set_ 8 _, ?_⟩
        refine hown7.kept (row := some w1.heap.size) ⟨rfl, rfl, rfl, by simp, fun i _ hne => Below.heap_setCell w7 ⟨w1.heap.size, 8, none⟩ _ i (fun he => hne (by rw [he]))⟩ ?_
        cases hv : (Value.slice A7 (j + 1) k7).ownBlock with
        | none => exact Or.inl rfl
        | some q => exact Or.inr (fun he => by have := (hown7.lt q hv).1; injection he with he; omega)
    · obtain rfl : j = T := by omega
      go_wp2_with fail
      go_ret2
      exact ⟨w1.heap.size, rfl, hb1.trans (hbr.mono (by omega))⟩

/-- a map of the call's own, whatever it holds -/
def MapAny (w : World) (b n : Nat) : Prop := ∃ D : DataW Unit, w.ownsMap Try.prog 22 (fun _ => some (.nil, [])) b n D
theorem mapAny_made (w : World) : MapAny (w.alloc (.map #[] 0)) w.heap.size 0 := ⟨.map [], World.ownsMap_made w _ _ _⟩
theorem law_op : Go.Maps.Keyed Try.prog 22 := Go.Maps.int_keyed Try.underlying22
theorem kit_put {w : World} {b n : Nat} (h : MapAny w b n) (hn : n < maxLen) (a : Int) (ha : -9223372036854775808 ≤ a ∧ a ≤ 9223372036854775807) (v : Value) :
    ∃ w', (Instr.mapUpdate 302 (.map (some b)) (.int .i64 a) v).run Try.prog w = .ok () w' ∧ MapAny w' b (n + 1) ∧ w.grownBy w' (some b) := by
  obtain ⟨D, h1⟩ := h
  have hw : (Lit.int .i64 a).wf = true := by
    have : (decide (IntKind.i64.min ≤ a) && decide (a ≤ IntKind.i64.max)) = true := by
      rw [show IntKind.i64.min = -9223372036854775808 from by decide, show IntKind.i64.max = 9223372036854775807 from by decide]
      simp
      exact ha
    exact this
  obtain ⟨w', hrun, r1, r2⟩ := h1.update law_op Try.underlying302 hn (Go.Maps.keyOf_int_mk Try.underlying22 hw) (val := v) rfl
  exact ⟨w', hrun, ⟨_, r1⟩, r2⟩

def DqR (t x : Int) (w : World) (e : Ending) (w' : World) : Prop := ∃ v y, e = .returned (.tuple #[v, .int .i64 y]) ∧ y = (if rangeB t x 1 256 = true then 0 else 210) ∧ Below w.heap.size w w'
set_option maxRecDepth 100000 in
set_option maxHeartbeats 4000000 in
theorem dqnew_any (t x : Int) (w : World) : Calls Try.prog 133 #[.agg #[.int .i64 t, .int .i64 x]] w (DqR t x w) := by
  have hmm := @run_makeMap Try.prog
  have HB0 : Hid (Blk (w.alloc (.cells #[.int .i64 t, .int .i64 x] 68)) w.heap.size 68 [.int .i64 t, .int .i64 x]) := Blk.new _ _ _
  have HW0 : Hid (Below w.heap.size w (w.alloc (.cells #[.int .i64 t, .int .i64 x] 68))) := (Below.refl _ _).alloc (Nat.le_refl _) _
  go_enter Try.func133, Try.ntmps133
  go_wp2_with fail
  refine (dqmay_any t x _).mono ?_
  generalize w.alloc (.cells #[.int .i64 t, .int .i64 x] 68) = w0 at HB0 HW0 ⊢
  rintro e w1 ⟨rfl, hb1⟩
  have HB1 := Lib.hid (HB0.out.below hb1 HB0.out.lt)
  have HW1 := Lib.hid (HW0.out.trans (hb1.mono HW0.out.size))
  clear hb1
  cases hr : rangeB t x 1 256 with
  | false =>
    go_wp2_with fail
    go_ret2
    exact ⟨_, _, rfl, by rw [hr]; rfl, HW1.out⟩
  | true =>
    have HR := Lib.hid hr
    have hb := hr
    simp only [rangeB, Bool.and_eq_true, decide_eq_true_eq] at hb
    obtain ⟨hb1, hb2, hb3, hb4⟩ := hb
    obtain ⟨N, hN⟩ : ∃ N : Nat, 2 + x = (N : Int) := ⟨(2 + x).toNat, by omega⟩
    have hN2 : N ≤ 258 := by omega
    have hN3 : IntKind.i64.wrap (N : Int) = N := IntWalk.i64_in _ (by omega)
    clear hr
    have c0 : w1.cell? ⟨w.heap.size, 0, none⟩ = some (.int .i64 t) := HB1.out.cell rfl
    have c1 : w1.cell? ⟨w.heap.size, 1, none⟩ = some (.int .i64 x) := HB1.out.cell rfl
    have hgl := HB1.out.lt
    go_upto_region 4 with fail
    have HW3 : Hid (Below w.heap.size w ((w1.alloc (.cells #[.int .i64 x, .int .i64 0, .bool false, .int .i64 0, .int .i64 0] 286)).alloc (.cells #[.pointer (some ⟨w1.heap.size, 0, none⟩)] 284))) := (HW1.out.alloc HW1.out.size _).alloc (by rw [World.size_alloc]; have := HW1.out.size; omega) _
    have HB3 : Hid (Blk ((w1.alloc (.cells #[.int .i64 x, .int .i64 0, .bool false, .int .i64 0, .int .i64 0] 286)).alloc (.cells #[.pointer (some ⟨w1.heap.size, 0, none⟩)] 284)) w.heap.size 68 [.int .i64 t, .int .i64 x]) := (HB1.out.alloc _).alloc _
    generalize (w1.alloc (.cells #[.int .i64 x, .int .i64 0, .bool false, .int .i64 0, .int .i64 0] 286)).alloc (.cells #[.pointer (some ⟨w1.heap.size, 0, none⟩)] 284) = w3 at HW3 HB3 ⊢
    clear c0 c1
    obtain ⟨m1, hrun1, hm1, hg1⟩ := kit_put (mapAny_made w3) (by simp [maxLen]) 90 (by omega) (.func (.func 146) #[] #[.pointer (some ⟨w1.heap.size + 1, 0, none⟩)])
    obtain ⟨m2, hrun2, hm2, hg2⟩ := kit_put hm1 (by simp [maxLen]) 91 (by omega) (.func (.func 147) #[] #[.pointer (some ⟨w1.heap.size + 1, 0, none⟩)])
    obtain ⟨m3, hrun3, hm3, hg3⟩ := kit_put hm2 (by simp [maxLen]) 92 (by omega) (.func (.func 148) #[] #[.pointer (some ⟨w1.heap.size + 1, 0, none⟩)])
    have hz3 := HW3.out.size
    have hgl3 := HB3.out.lt
    have hga : (w3.alloc (.map #[] 0)).grownBy m3 (some w3.heap.size) := (hg1.trans hg2).trans hg3
    have HWm : Hid (Below w.heap.size w m3) := (HW3.out.alloc hz3 _).grown hga (by rw [World.size_alloc]; omega) (fun q hq => by injection hq with hq; omega)
    have HBm : Hid (Blk m3 w.heap.size 68 [.int .i64 t, .int .i64 x]) := (HB3.out.alloc _).grown hga (fun he => by injection he with he; omega)
    clear hm1 hm2 hm3 hg1 hg2 hg3 hga
    go_upto_region 5 with fail
    clear hrun1 hrun2 hrun3 hmm
    obtain ⟨i1, hi1, hi1z, hi1s, hi1b⟩ := info_parts info_u64
    obtain ⟨w5, hrun5, hown5, hg5⟩ := run_make_full (P := Try.prog) m3.drew w.heap.size 34 59 i1 (.int .u64 0) 1 Try.underlying34 hi1 hi1z hi1s .i64 .i64 N (by rw [hi1b]; omega) (by simp only [maxLen]; omega) HWm.out.size
    have c0 : m3.cell? ⟨w.heap.size, 0, none⟩ = some (.int .i64 t) := HBm.out.cell rfl
    have c1 : m3.cell? ⟨w.heap.size, 1, none⟩ = some (.int .i64 x) := HBm.out.cell rfl
    have HB5 := Lib.hid ((show Blk m3.drew w.heap.size 68 [.int .i64 t, .int .i64 x] from HBm.out).grown hg5 (by simp))
    have d0 : w5.cell? ⟨w.heap.size, 0, none⟩ = some (.int .i64 t) := HB5.out.cell rfl
    have d1 : w5.cell? ⟨w.heap.size, 1, none⟩ = some (.int .i64 x) := HB5.out.cell rfl
    have HW5 : Hid (Below w.heap.size w w5) := (HWm.out.drew).grown hg5 HWm.out.size (fun q hq => by cases hq)
    have HCall : Hid (∀ k, Calls Try.prog 149 #[.int .i64 t, .slice (some ⟨m3.heap.size, 0, none⟩) N k, .map (some w3.heap.size)] w5 (MemR w5)) := fun k =>
      machnew_any t _ 0 N k _ w3.heap.size w5 ⟨hb1, hb2⟩ (Sl.of_own hown5) (by show ∀ u ∈ (madeCells #[Value.int .u64 0] (N * 1)).toList, u.oneCell' = true; rw [madeCells_one]; intro u hu; simp at hu; rw [hu.2]; rfl) (by omega)
    clear hown5 hg5
    go_region_with ((go_at_call 149; refine (HCall.out _).mono ?_; rintro e w6 ⟨g6, rfl, hb6⟩))
    all_goals (go_wp2_with fail; go_ret2; exact ⟨_, _, rfl, by rw [HR.out]; rfl, HW5.out.trans (hb6.mono HW5.out.size)⟩)
end Go.Proofs.Ytgbopmgeicokoaa
