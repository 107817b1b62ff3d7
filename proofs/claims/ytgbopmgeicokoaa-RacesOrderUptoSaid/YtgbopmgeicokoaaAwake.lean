/-
  reclaimlaw27.awake: two fixed runs and their races.
-/
import Derived.Test.YtgbopmgeicokoaaRaces
import Derived.Deep.RegionHeld3
namespace Go.Proofs.Ytgbopmgeicokoaa
open Go.RowKit

def c9 : Cfg := ⟨2, 1, 3, 1, 0, 1, 1⟩
def tr4 : List Acc := [⟨0, 0, 2, 12, 0, 5, 0⟩, ⟨0, 0, 3, 2, 0, 1, 0⟩, ⟨0, 1, 1, 2, 0, 0, 1⟩, ⟨0, 1, 1, 12, 0, 0, 5⟩]
def tr3 : List Acc := [⟨0, 0, 2, 12, 0, 5, 0⟩, ⟨0, 0, 3, 2, 0, 1, 0⟩, ⟨0, 1, 1, 12, 0, 0, 5⟩]
theorem sum9 : sumF c9 10 = 12 := by decide
theorem ok9 : okC c9 = true := by decide
theorem err4 : runErr c9 tr4 = 0 := by decide
theorem err3 : runErr c9 tr3 = 0 := by decide
theorem races4 : racesV c9 tr4 4 = [] := by decide
theorem races3 : racesV c9 tr3 3 = [(0, 2, 12)] := by decide

theorem base9 (W : World) : Calls Try.prog 67 #[.agg #[.int .i64 2, .int .i64 1, .int .i64 3, .int .i64 1, .int .i64 0, .int .i64 1, .int .i64 1], .int .i64 11] W (IntR 12 W) := by
  have h := base_any c9 ((okC_iff c9).1 ok9) 10 (by omega) W
  rw [sum9] at h
  exact h
theorem races4_any (g : Nat) (W : World) (h : Blk W g 61 (accVals tr4)) :
    Calls Try.prog 68 #[.agg #[.int .i64 2, .int .i64 1, .int .i64 3, .int .i64 1, .int .i64 0, .int .i64 1, .int .i64 1], .agg #[.slice none 0 0, .slice (some ⟨g, 0, none⟩) 4 4, .slice none 0 0, .slice none 0 0]] W
      (fun e w' => ∃ A k, e = .returned (.tuple #[.slice A 0 k, .int .i64 0]) ∧ Below W.heap.size W w') :=
  (races_any c9 _ _ _ (some ⟨g, 0, none⟩) 4 4 tr4 W ⟨h.sl rfl, Nat.le_refl _, by simp [maxLen]⟩ (by omega) (by decide)).mono fun e w' hh => by
    obtain ⟨hb, hh⟩ := hh
    rw [races4] at hh
    rcases hh with ⟨_, A, k, he, _⟩ | ⟨hne, _⟩
    · exact ⟨A, k, he, hb⟩
    · exact absurd err4 hne
theorem races3_any (g : Nat) (W : World) (h : Blk W g 61 (accVals tr3)) :
    Calls Try.prog 68 #[.agg #[.int .i64 2, .int .i64 1, .int .i64 3, .int .i64 1, .int .i64 0, .int .i64 1, .int .i64 1], .agg #[.slice none 0 0, .slice (some ⟨g, 0, none⟩) 3 3, .slice none 0 0, .slice none 0 0]] W
      (fun e w' => ∃ b o k, e = .returned (.tuple #[.slice (some ⟨b, o, none⟩) 1 k, .int .i64 0]) ∧ Below W.heap.size W w' ∧ w'.cell? ⟨b, o, none⟩ = some (.int .i64 0) ∧ w'.cell? ⟨b, o + 1, none⟩ = some (.int .i64 2) ∧ w'.cell? ⟨b, o + 2, none⟩ = some (.int .i64 12)) :=
  (races_any c9 _ _ _ (some ⟨g, 0, none⟩) 3 3 tr3 W ⟨h.sl rfl, Nat.le_refl _, by simp [maxLen]⟩ (by omega) (by decide)).mono fun e w' hh => by
    obtain ⟨hb, hh⟩ := hh
    rw [races3] at hh
    rcases hh with ⟨_, A, k, he, hs, _⟩ | ⟨hne, _⟩
    · obtain ⟨b, o, rfl, _, hc⟩ := hs.2 (by decide)
      exact ⟨b, o, k, he, hb, hc 0 _ rfl, hc 1 _ rfl, hc 2 _ rfl⟩
    · exact absurd err3 hne

set_option maxRecDepth 100000 in
set_option maxHeartbeats 4000000 in
theorem awake_any (w : World) : Calls Try.prog 28 #[] w (BoolR true w) := by
  go_enter Try.func28, Try.ntmps28
  go_upto_region 2 with fail
  have HC : Hid (Blk (w.alloc (.cells #[.int .i64 2, .int .i64 1, .int .i64 3, .int .i64 1, .int .i64 0, .int .i64 1, .int .i64 1] 45)) w.heap.size 45 (cfgL c9)) := Blk.new _ _ _
  have HB : Hid (Below w.heap.size w (w.alloc (.cells #[.int .i64 2, .int .i64 1, .int .i64 3, .int .i64 1, .int .i64 0, .int .i64 1, .int .i64 1] 45))) := (Below.refl _ _).alloc (Nat.le_refl _) _
  generalize w.alloc (.cells #[.int .i64 2, .int .i64 1, .int .i64 3, .int .i64 1, .int .i64 0, .int .i64 1, .int .i64 1] 45) = w1 at HC HB ⊢
  have hgl := HC.out.lt
  have c0 : w1.cell? ⟨w.heap.size, 0, none⟩ = some (.int .i64 2) := HC.out.cell rfl
  have c1 : w1.cell? ⟨w.heap.size, 1, none⟩ = some (.int .i64 1) := HC.out.cell rfl
  have c2 : w1.cell? ⟨w.heap.size, 2, none⟩ = some (.int .i64 3) := HC.out.cell rfl
  have c3 : w1.cell? ⟨w.heap.size, 3, none⟩ = some (.int .i64 1) := HC.out.cell rfl
  have c4 : w1.cell? ⟨w.heap.size, 4, none⟩ = some (.int .i64 0) := HC.out.cell rfl
  have c5 : w1.cell? ⟨w.heap.size, 5, none⟩ = some (.int .i64 1) := HC.out.cell rfl
  have c6 : w1.cell? ⟨w.heap.size, 6, none⟩ = some (.int .i64 1) := HC.out.cell rfl
  go_wp2_with fail
  refine (base9 _).mono ?_
  rintro e w2 ⟨rfl, hb2⟩
  clear c0 c1 c2 c3 c4 c5 c6
  have HC2 := Lib.hid (HC.out.below hb2 hgl)
  have HB2 := Lib.hid (HB.out.trans (hb2.mono HB.out.size))
  go_upto_region 4 with fail
  have HT3 : Hid (Blk (w2.alloc (.cells #[.int .i64 0, .int .i64 0, .int .i64 2, .int .i64 12, .int .u64 0, .int .u64 5, .int .u64 0, .int .i64 0, .int .i64 0, .int .i64 3, .int .i64 2, .int .u64 0, .int .u64 1, .int .u64 0, .int .i64 0, .int .i64 1, .int .i64 1, .int .i64 2, .int .u64 0, .int .u64 0, .int .u64 1, .int .i64 0, .int .i64 1, .int .i64 1, .int .i64 12, .int .u64 0, .int .u64 0, .int .u64 5] 61)) w2.heap.size 61 (accVals tr4)) := Blk.new _ _ _
  have HC3 : Hid (Blk (w2.alloc (.cells #[.int .i64 0, .int .i64 0, .int .i64 2, .int .i64 12, .int .u64 0, .int .u64 5, .int .u64 0, .int .i64 0, .int .i64 0, .int .i64 3, .int .i64 2, .int .u64 0, .int .u64 1, .int .u64 0, .int .i64 0, .int .i64 1, .int .i64 1, .int .i64 2, .int .u64 0, .int .u64 0, .int .u64 1, .int .i64 0, .int .i64 1, .int .i64 1, .int .i64 12, .int .u64 0, .int .u64 0, .int .u64 5] 61)) w.heap.size 45 (cfgL c9)) := HC2.out.alloc _
  have HB3 : Hid (Below w.heap.size w (w2.alloc (.cells #[.int .i64 0, .int .i64 0, .int .i64 2, .int .i64 12, .int .u64 0, .int .u64 5, .int .u64 0, .int .i64 0, .int .i64 0, .int .i64 3, .int .i64 2, .int .u64 0, .int .u64 1, .int .u64 0, .int .i64 0, .int .i64 1, .int .i64 1, .int .i64 2, .int .u64 0, .int .u64 0, .int .u64 1, .int .i64 0, .int .i64 1, .int .i64 1, .int .i64 12, .int .u64 0, .int .u64 0, .int .u64 5] 61))) := HB2.out.alloc HB2.out.size _
  generalize w2.alloc (.cells #[.int .i64 0, .int .i64 0, .int .i64 2, .int .i64 12, .int .u64 0, .int .u64 5, .int .u64 0, .int .i64 0, .int .i64 0, .int .i64 3, .int .i64 2, .int .u64 0, .int .u64 1, .int .u64 0, .int .i64 0, .int .i64 1, .int .i64 1, .int .i64 2, .int .u64 0, .int .u64 0, .int .u64 1, .int .i64 0, .int .i64 1, .int .i64 1, .int .i64 12, .int .u64 0, .int .u64 0, .int .u64 5] 61) = w3 at HT3 HC3 HB3 ⊢
  have c0 : w3.cell? ⟨w.heap.size, 0, none⟩ = some (.int .i64 2) := HC3.out.cell rfl
  have c1 : w3.cell? ⟨w.heap.size, 1, none⟩ = some (.int .i64 1) := HC3.out.cell rfl
  have c2 : w3.cell? ⟨w.heap.size, 2, none⟩ = some (.int .i64 3) := HC3.out.cell rfl
  have c3 : w3.cell? ⟨w.heap.size, 3, none⟩ = some (.int .i64 1) := HC3.out.cell rfl
  have c4 : w3.cell? ⟨w.heap.size, 4, none⟩ = some (.int .i64 0) := HC3.out.cell rfl
  have c5 : w3.cell? ⟨w.heap.size, 5, none⟩ = some (.int .i64 1) := HC3.out.cell rfl
  have c6 : w3.cell? ⟨w.heap.size, 6, none⟩ = some (.int .i64 1) := HC3.out.cell rfl
  have hgl3 := HC3.out.lt
  have hgt3 := HT3.out.lt
  go_wp2_with fail
  refine (races4_any _ _ HT3.out).mono ?_
  rintro e w4 ⟨A4, k4, rfl, hb4⟩
  clear c0 c1 c2 c3 c4 c5 c6
  have HC4 := Lib.hid (HC3.out.below hb4 hgl3)
  have HT4 := Lib.hid (HT3.out.below hb4 hgt3)
  have HB4 := Lib.hid (HB3.out.trans (hb4.mono HB3.out.size))
  have hgl4 := HC4.out.lt
  have hgt4 := HT4.out.lt
  clear hgl hb2 hgl3 hgt3 hb4
  go_upto_region 5 with fail
  have HS : Hid (∀ W, Below w4.heap.size w4 W → Below w4.heap.size w4 W ∧ W.cell? ⟨w.heap.size, 0, none⟩ = some (.int .i64 2) ∧ W.cell? ⟨w.heap.size, 1, none⟩ = some (.int .i64 1) ∧ W.cell? ⟨w.heap.size, 2, none⟩ = some (.int .i64 3) ∧ W.cell? ⟨w.heap.size, 3, none⟩ = some (.int .i64 1) ∧ W.cell? ⟨w.heap.size, 4, none⟩ = some (.int .i64 0) ∧ W.cell? ⟨w.heap.size, 5, none⟩ = some (.int .i64 1) ∧ W.cell? ⟨w.heap.size, 6, none⟩ = some (.int .i64 1) ∧ W.cell? ⟨w2.heap.size, 0, none⟩ = some (.int .i64 0) ∧ W.cell? ⟨w2.heap.size, 1, none⟩ = some (.int .i64 0) ∧ W.cell? ⟨w2.heap.size, 2, none⟩ = some (.int .i64 2) ∧ W.cell? ⟨w2.heap.size, 3, none⟩ = some (.int .i64 12) ∧ W.cell? ⟨w2.heap.size, 4, none⟩ = some (.int .u64 0) ∧ W.cell? ⟨w2.heap.size, 5, none⟩ = some (.int .u64 5) ∧ W.cell? ⟨w2.heap.size, 6, none⟩ = some (.int .u64 0) ∧ W.cell? ⟨w2.heap.size, 7, none⟩ = some (.int .i64 0) ∧ W.cell? ⟨w2.heap.size, 8, none⟩ = some (.int .i64 0) ∧ W.cell? ⟨w2.heap.size, 9, none⟩ = some (.int .i64 3) ∧ W.cell? ⟨w2.heap.size, 10, none⟩ = some (.int .i64 2) ∧ W.cell? ⟨w2.heap.size, 11, none⟩ = some (.int .u64 0) ∧ W.cell? ⟨w2.heap.size, 12, none⟩ = some (.int .u64 1) ∧ W.cell? ⟨w2.heap.size, 13, none⟩ = some (.int .u64 0) ∧ W.cell? ⟨w2.heap.size, 21, none⟩ = some (.int .i64 0) ∧ W.cell? ⟨w2.heap.size, 22, none⟩ = some (.int .i64 1) ∧ W.cell? ⟨w2.heap.size, 23, none⟩ = some (.int .i64 1) ∧ W.cell? ⟨w2.heap.size, 24, none⟩ = some (.int .i64 12) ∧ W.cell? ⟨w2.heap.size, 25, none⟩ = some (.int .u64 0) ∧ W.cell? ⟨w2.heap.size, 26, none⟩ = some (.int .u64 0) ∧ W.cell? ⟨w2.heap.size, 27, none⟩ = some (.int .u64 5)) := fun W hB => ⟨hB, (HC4.out.below hB hgl4).cell rfl, (HC4.out.below hB hgl4).cell rfl, (HC4.out.below hB hgl4).cell rfl, (HC4.out.below hB hgl4).cell rfl, (HC4.out.below hB hgl4).cell rfl, (HC4.out.below hB hgl4).cell rfl, (HC4.out.below hB hgl4).cell rfl, (HT4.out.below hB hgt4).cell rfl, (HT4.out.below hB hgt4).cell rfl, (HT4.out.below hB hgt4).cell rfl, (HT4.out.below hB hgt4).cell rfl, (HT4.out.below hB hgt4).cell rfl, (HT4.out.below hB hgt4).cell rfl, (HT4.out.below hB hgt4).cell rfl, (HT4.out.below hB hgt4).cell rfl, (HT4.out.below hB hgt4).cell rfl, (HT4.out.below hB hgt4).cell rfl, (HT4.out.below hB hgt4).cell rfl, (HT4.out.below hB hgt4).cell rfl, (HT4.out.below hB hgt4).cell rfl, (HT4.out.below hB hgt4).cell rfl, (HT4.out.below hB hgt4).cell rfl, (HT4.out.below hB hgt4).cell rfl, (HT4.out.below hB hgt4).cell rfl, (HT4.out.below hB hgt4).cell rfl, (HT4.out.below hB hgt4).cell rfl, (HT4.out.below hB hgt4).cell rfl, (HT4.out.below hB hgt4).cell rfl⟩
  have HS4 := Lib.hid (HS.out w4 (Below.refl _ _))
  have HCs : Hid (∀ g W, Blk W g 61 (accVals tr3) → Calls Try.prog 68 #[.agg #[.int .i64 2, .int .i64 1, .int .i64 3, .int .i64 1, .int .i64 0, .int .i64 1, .int .i64 1], .agg #[.slice none 0 0, .slice (some ⟨g, 0, none⟩) 3 3, .slice none 0 0, .slice none 0 0]] W
      (fun e w' => ∃ b o k, e = .returned (.tuple #[.slice (some ⟨b, o, none⟩) 1 k, .int .i64 0]) ∧ Below W.heap.size W w' ∧ w'.cell? ⟨b, o, none⟩ = some (.int .i64 0) ∧ w'.cell? ⟨b, o + 1, none⟩ = some (.int .i64 2) ∧ w'.cell? ⟨b, o + 2, none⟩ = some (.int .i64 12))) := races3_any
  have HN4 : Hid (Blk ((w4.alloc (.cells #[.int .i64 0, .int .i64 0, .int .i64 2, .int .i64 12, .int .u64 0, .int .u64 5, .int .u64 0, .int .i64 0, .int .i64 0, .int .i64 3, .int .i64 2, .int .u64 0, .int .u64 1, .int .u64 0, .int .i64 0, .int .i64 1, .int .i64 1, .int .i64 12, .int .u64 0, .int .u64 0, .int .u64 5] 61)).drew) w4.heap.size 61 (accVals tr3)) := Blk.new w4 61 (accVals tr3)
  go_cut [6, 7] (fun s6 s7 wc => ∃ b o k, s6 = .slice (some ⟨b, o, none⟩) 1 k ∧ s7 = .int .i64 0 ∧ Below w4.heap.size w4 wc ∧ wc.cell? ⟨b, o, none⟩ = some (.int .i64 0) ∧ wc.cell? ⟨b, o + 1, none⟩ = some (.int .i64 2) ∧ wc.cell? ⟨b, o + 2, none⟩ = some (.int .i64 12))
  case first =>
    go_region_held3 (fun W => Below w4.heap.size w4 W ∧ W.cell? ⟨w.heap.size, 0, none⟩ = some (.int .i64 2) ∧ W.cell? ⟨w.heap.size, 1, none⟩ = some (.int .i64 1) ∧ W.cell? ⟨w.heap.size, 2, none⟩ = some (.int .i64 3) ∧ W.cell? ⟨w.heap.size, 3, none⟩ = some (.int .i64 1) ∧ W.cell? ⟨w.heap.size, 4, none⟩ = some (.int .i64 0) ∧ W.cell? ⟨w.heap.size, 5, none⟩ = some (.int .i64 1) ∧ W.cell? ⟨w.heap.size, 6, none⟩ = some (.int .i64 1) ∧ W.cell? ⟨w2.heap.size, 0, none⟩ = some (.int .i64 0) ∧ W.cell? ⟨w2.heap.size, 1, none⟩ = some (.int .i64 0) ∧ W.cell? ⟨w2.heap.size, 2, none⟩ = some (.int .i64 2) ∧ W.cell? ⟨w2.heap.size, 3, none⟩ = some (.int .i64 12) ∧ W.cell? ⟨w2.heap.size, 4, none⟩ = some (.int .u64 0) ∧ W.cell? ⟨w2.heap.size, 5, none⟩ = some (.int .u64 5) ∧ W.cell? ⟨w2.heap.size, 6, none⟩ = some (.int .u64 0) ∧ W.cell? ⟨w2.heap.size, 7, none⟩ = some (.int .i64 0) ∧ W.cell? ⟨w2.heap.size, 8, none⟩ = some (.int .i64 0) ∧ W.cell? ⟨w2.heap.size, 9, none⟩ = some (.int .i64 3) ∧ W.cell? ⟨w2.heap.size, 10, none⟩ = some (.int .i64 2) ∧ W.cell? ⟨w2.heap.size, 11, none⟩ = some (.int .u64 0) ∧ W.cell? ⟨w2.heap.size, 12, none⟩ = some (.int .u64 1) ∧ W.cell? ⟨w2.heap.size, 13, none⟩ = some (.int .u64 0) ∧ W.cell? ⟨w2.heap.size, 21, none⟩ = some (.int .i64 0) ∧ W.cell? ⟨w2.heap.size, 22, none⟩ = some (.int .i64 1) ∧ W.cell? ⟨w2.heap.size, 23, none⟩ = some (.int .i64 1) ∧ W.cell? ⟨w2.heap.size, 24, none⟩ = some (.int .i64 12) ∧ W.cell? ⟨w2.heap.size, 25, none⟩ = some (.int .u64 0) ∧ W.cell? ⟨w2.heap.size, 26, none⟩ = some (.int .u64 0) ∧ W.cell? ⟨w2.heap.size, 27, none⟩ = some (.int .u64 5))
      ((refine HS.out _ ?_; go_split_ands; first | assumption | exact (Below.refl _ _).drew | exact ((Below.refl _ _).alloc (Nat.le_refl _) _).drew | exact Below.trans ‹Below w4.heap.size w4 _› (hb9.mono (‹Below w4.heap.size w4 _›).size)))
      ((go_at_call 68; refine (HCs.out _ _ HN4.out).mono ?_; rintro e W9 ⟨b9, o9, k9, rfl, hb9, d0, d1, d2⟩))
    all_goals (go_wp2_with fail; go_meet; go_split_ands)
    all_goals exact ⟨_, _, _, rfl, rfl, by assumption, by assumption, by assumption, by assumption⟩
  case rest =>
    obtain ⟨b, o, k, rfl, rfl, hb5, d0, d1, d2⟩ := hcut
    obtain ⟨w5, rfl⟩ : ∃ w5 : World, w5 = wc := ⟨_, rfl⟩
    have HF := Lib.hid (HB4.out.trans (hb5.mono HB4.out.size))
    clear hb5
    go_wp2_with fail
    refine (num27_any _ _).mono ?_
    rintro e _ ⟨rfl, rfl⟩
    go_wp2_with fail
    refine (num27_any _ _).mono ?_
    rintro e _ ⟨rfl, rfl⟩
    go_wp2_with fail
    go_ret
    exact ⟨rfl, HF.out⟩
end Go.Proofs.Ytgbopmgeicokoaa
