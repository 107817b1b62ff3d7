/-
  The first example's run, plainly; Play and Holds on it.
-/
import Derived.Test.YtjnmlgfkiebkgaaLsp
namespace Go.Proofs.Ytjnmlgfkiebkgaa
open Go.RowKit
set_option linter.unusedVariables false
set_option linter.unusedSimpArgs false

theorem own_some {w : World} {base : Nat} {e : TypeId} {size : Nat} {v : Value} {n : Nat} {xs : List Value} (h : w.ownsRow base e size v n xs) (hn : 0 < n) :
    ∃ g cap, v = .slice (some ⟨g, 0, none⟩) n cap := by
  rcases h.2 with ⟨_, h0⟩ | ⟨g, cap, cur, hv, _⟩
  · omega
  · exact ⟨g, cap, hv⟩
def awMs : List Mo := [⟨0, 120, 0, 0⟩, ⟨0, 0, 0, 0⟩, ⟨0, 0, 0, 0⟩, ⟨0, 0, 0, 0⟩, ⟨1, 120, 0, 0⟩, ⟨1, 0, 0, 0⟩, ⟨1, 0, 0, 0⟩, ⟨1, 0, 0, 0⟩, ⟨1, 0, 0, 0⟩, ⟨0, 124, 0, 0⟩, ⟨0, 0, 0, 0⟩, ⟨0, 0, 0, 0⟩, ⟨0, 121, 0, 0⟩, ⟨0, 0, 0, 0⟩, ⟨1, 0, 0, 0⟩]
def awC : List Cal := [⟨0, 120, 0, 0, 0, 3, 2, 1, 0⟩, ⟨1, 120, 0, 0, 4, 14, 6, 1, 0⟩, ⟨0, 124, 0, 0, 9, 11, -1, 2, 0⟩, ⟨0, 121, 0, 0, 12, 13, -1, 1, 0⟩]
def awW : List Int := [1, 2, 1]
def awS : List St := [⟨0, false, 3, 12⟩, ⟨1, false, 14, -1⟩]
def awT : List Cal := [⟨0, 124, 0, 0, 9, 11, -1, 2, 0⟩]
theorem aw_calls : ((mc0 2 2).moves_ awMs).calls = awC := by kernel_rfl
theorem aw_words : ((mc0 2 2).moves_ awMs).words = awW := by kernel_rfl
theorem aw_log : ((mc0 2 2).moves_ awMs).log.length = 11 := by kernel_rfl
theorem aw_st0 : stays0 awC = awS := by kernel_rfl
theorem aw_tc0 : awC.filter Cal.isTouch = awT := by kernel_rfl
theorem aw_holds : holdsP awS awT awW = true := by kernel_rfl
theorem aw_sty : styS (stays0 awC) awS := by
  rw [aw_st0]
  have h := sty_small awS (by decide)
  have h2 : Sort.insertionSort (ltOf styC) awS.toArray 0 awS.length = awS.toArray := insS_id (ltOf styC) awS.toArray (by
    intro i h0 hi
    have hi' : i < 2 := hi
    obtain rfl : i = 1 := by omega
    rfl)
  rw [h2] at h
  exact h
theorem aw_cal : calS (awC.filter Cal.isTouch) awT := by
  rw [aw_tc0]
  have h := cal_small awT (by decide)
  have h2 : Sort.insertionSort (ltOf calC) awT.toArray 0 awT.length = awT.toArray := insS_id (ltOf calC) awT.toArray (by
    intro i h0 hi
    have hi' : i < 1 := hi
    omega)
  rw [h2] at h
  exact h
def AwR (w : World) (e : Ending) (w' : World) : Prop :=
  ∃ gc kc At kt gw kw, e = .returned (.tuple #[.agg #[.slice (some ⟨gc, 0, none⟩) 4 kc, .slice At 11 kt, .slice none 0 0, .slice (some ⟨gw, 0, none⟩) 3 kw], .int .i64 0]) ∧
    w'.ownsRow w.heap.size 62 9 (.slice (some ⟨gc, 0, none⟩) 4 kc) 4 (calVals awC) ∧ w'.ownsRow w.heap.size 34 1 (.slice (some ⟨gw, 0, none⟩) 3 kw) 3 (u64s awW) ∧ Below w.heap.size w w'
theorem aw_play (A : Option Addr) (c : Nat) (w : World) (h : Sl w w.heap.size 4 A 15 (moVals awMs)) :
    Calls Try.prog 24 #[.agg #[.int .i64 2, .int .i64 2], .slice A 15 c] w (AwR w) := by
  have h0 : ∀ w, Calls Try.prog 27 #[.agg #[.int .i64 ((2 : Nat) : Int), .int .i64 2]] w (fun e w' => ∃ M, e = .returned (.tuple #[.pointer (some ⟨M.x, 0, none⟩), .int .i64 0]) ∧ MM w' w.heap.size M (mc0 2 ((2 : Nat) : Int)) ∧ Below w.heap.size w w') :=
    fun w => lnew_any 2 2 (by rfl) (by omega) (words_p2 2 (by omega) (by omega)) (by decide) (fun me w => rules_2 2 me w) w
  have h1 := lplay_any 2 2 kok2 (by omega) h0 awMs A c w h (by decide) (by
    intro v hv
    simp only [awMs, List.mem_cons, List.not_mem_nil, or_false] at hv
    rcases hv with rfl | rfl | rfl | rfl | rfl | rfl | rfl | rfl | rfl | rfl | rfl | rfl | rfl | rfl | rfl <;> decide) (by
      show (((mc0 2 2).moves_ awMs).log.length ≤ 100000 ∧ ((mc0 2 2).moves_ awMs).calls.length ≤ 100000 ∧ ((mc0 2 2).moves_ awMs).words.length ≤ 8192)
      rw [aw_log, aw_calls, aw_words]; decide)
  refine Calls.mono h1 ?_
  show ∀ e w', PlayR ((mc0 2 2).moves_ awMs) w e w' → _
  rintro e w' ⟨Ac, kc, At, kt, Aw, kw, rfl, o1, o2, o3, hb⟩
  rw [aw_calls] at o1 ⊢
  rw [aw_words] at o3 ⊢
  rw [aw_log]
  obtain ⟨gc, kc', e1⟩ := own_some o1 (by decide)
  obtain ⟨gw, kw', e3⟩ := own_some o3 (by decide)
  injection e1 with e1 _ e1'
  injection e3 with e3 _ e3'
  subst e1 e1' e3 e3'
  exact ⟨gc, _, At, kt, gw, _, rfl, o1, o3, hb⟩
end Go.Proofs.Ytjnmlgfkiebkgaa
