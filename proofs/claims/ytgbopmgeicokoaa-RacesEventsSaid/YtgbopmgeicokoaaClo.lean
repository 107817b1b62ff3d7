/-
  slices.Clone: of numbers, of registers, of an empty buffer.
-/
import Derived.Test.YtgbopmgeicokoaaRw
namespace Go.Proofs.Ytgbopmgeicokoaa
open Go.RowKit

theorem info_int1 : (Try.prog.info? 3).map (fun i => (i.zero, i.size, i.bytes)) = some (some (.int .i64 0), 1, 8) := by kernel_rfl
theorem info_reg4 : (Try.prog.info? 173).map (fun i => (i.zero, i.size, i.bytes)) = some (some (.agg #[.int .i64 0, .int .i64 0, .int .i64 0, .int .i64 0]), 4, 32) := by kernel_rfl
theorem ints_one' (l : List Int) : ∀ u ∈ ints l, u.oneCell' = true := by
  intro u hu
  obtain ⟨x, _, rfl⟩ := List.mem_map.1 hu
  rfl
theorem natsI_one' (l : List Nat) : ∀ u ∈ natsI l, u.oneCell' = true := by
  intro u hu
  obtain ⟨x, _, rfl⟩ := List.mem_map.1 hu
  rfl
def CloR (t : TypeId) (sz n : Nat) (xs : List Value) (w : World) (e : Ending) (w' : World) : Prop :=
  ∃ g k, e = .returned (.slice (some ⟨g, 0, none⟩) n k) ∧ w.heap.size ≤ g ∧ Rw w' g t sz n k xs ∧ Below w.heap.size w w'

set_option maxRecDepth 100000 in
set_option maxHeartbeats 4000000 in
theorem cloI_any (b o n k : Nat) (xs : List Value) (w : World) (h : Sl w w.heap.size 1 (some ⟨b, o, none⟩) n xs) (h1 : ∀ u ∈ xs, u.oneCell' = true) (hn : 0 < n ∧ n ≤ 1024) :
    Calls Try.prog 121 #[.slice (some ⟨b, o, none⟩) n k] w (CloR 3 1 n xs w) := by
  obtain ⟨i0, hi0, hi0z, hi0s, hi0b⟩ := info_parts info_int1
  have HS := Lib.hid h
  have H1 := Lib.hid h1
  have qT : ∀ (w : World) (a : Option Addr) (n c : Nat), (binOp .eql 30 (.slice a n c) (.slice none 0 0)).run Try.prog w = .ok (.bool a.isNone) w := fun w a n c => Lib.run_eql_slice_nil w _ _ a n c 0 0 Try.underlying30
  have hn1 := hn.1
  have hn2 := hn.2
  clear h h1 hn
  go_enter Try.func121, Try.ntmps121
  go_wp2_with (at_builtin; go_must (refine wpList_app0 _ rfl _ _ 30 rfl w.heap.size 3 i0 (.int .i64 0) 1 8 Try.underlying30 hi0 hi0z hi0s hi0b rfl (by decide) _ rfl (made_e _ _ _ (Nat.le_refl _)) w.heap.size (some ⟨b, o, none⟩) n k xs rfl (HS.out.below ((Below.refl _ _).alloc (Nat.le_refl _) _)) H1.out (by simp only [maxLen]; omega) (by omega) (by rw [World.size_alloc]; omega) ?_; intro A2 k2 w2 hown2 hb2 hA2 hk1 hk2; have HO2 := Lib.hid hown2; have HB2 := Lib.hid hb2; have hA3 := hA2 hn1; clear hown2 hb2 hA2))
  subst hA3
  go_ret
  obtain ⟨g, hg, hB, hR⟩ := Rw.of_own HO2.out hn1
  injection hg with hg
  injection hg with hg _
  subst hg
  rw [World.size_alloc] at hB hR
  exact ⟨_, k2, rfl, hB, hR, ((Below.refl _ _).alloc (Nat.le_refl _) _).trans (HB2.out.mono (by rw [World.size_alloc]; omega))⟩

set_option maxRecDepth 100000 in
set_option maxHeartbeats 4000000 in
theorem cloR_any (b o n k : Nat) (xs : List Value) (w : World) (h : Sl w w.heap.size 4 (some ⟨b, o, none⟩) n xs) (h1 : ∀ u ∈ xs, u.oneCell' = true) (hn : 0 < n ∧ n ≤ 1024) :
    Calls Try.prog 151 #[.slice (some ⟨b, o, none⟩) n k] w (CloR 173 4 n xs w) := by
  obtain ⟨i0, hi0, hi0z, hi0s, hi0b⟩ := info_parts info_reg4
  have HS := Lib.hid h
  have H1 := Lib.hid h1
  have qT : ∀ (w : World) (a : Option Addr) (n c : Nat), (binOp .eql 110 (.slice a n c) (.slice none 0 0)).run Try.prog w = .ok (.bool a.isNone) w := fun w a n c => Lib.run_eql_slice_nil w _ _ a n c 0 0 Try.underlying110
  have hn1 := hn.1
  have hn2 := hn.2
  clear h h1 hn
  go_enter Try.func151, Try.ntmps151
  go_wp2_with (at_builtin; go_must (refine wpList_app0 _ rfl _ _ 110 rfl w.heap.size 173 i0 (.agg #[.int .i64 0, .int .i64 0, .int .i64 0, .int .i64 0]) 4 32 Try.underlying110 hi0 hi0z hi0s hi0b rfl (by decide) _ rfl (made_e _ _ _ (Nat.le_refl _)) w.heap.size (some ⟨b, o, none⟩) n k xs rfl (HS.out.below ((Below.refl _ _).alloc (Nat.le_refl _) _)) H1.out (by simp only [maxLen]; omega) (by omega) (by rw [World.size_alloc]; omega) ?_; intro A2 k2 w2 hown2 hb2 hA2 hk1 hk2; have HO2 := Lib.hid hown2; have HB2 := Lib.hid hb2; have hA3 := hA2 hn1; clear hown2 hb2 hA2))
  subst hA3
  go_ret
  obtain ⟨g, hg, hB, hR⟩ := Rw.of_own HO2.out hn1
  injection hg with hg
  injection hg with hg _
  subst hg
  rw [World.size_alloc] at hB hR
  exact ⟨_, k2, rfl, hB, hR, ((Below.refl _ _).alloc (Nat.le_refl _) _).trans (HB2.out.mono (by rw [World.size_alloc]; omega))⟩

set_option maxRecDepth 100000 in
theorem cloP_any (w : World) : Calls Try.prog 152 #[.slice none 0 0] w (fun e w' => e = .returned (.slice none 0 0) ∧ w' = w) := by
  have qT : ∀ (w : World) (a : Option Addr) (n c : Nat), (binOp .eql 278 (.slice a n c) (.slice none 0 0)).run Try.prog w = .ok (.bool a.isNone) w := fun w a n c => Lib.run_eql_slice_nil w _ _ a n c 0 0 Try.underlying278
  go_enter Try.func152, Try.ntmps152
  go_wp2_with fail
  go_ret
  exact ⟨rfl, rfl⟩
end Go.Proofs.Ytgbopmgeicokoaa
