/-
  reclaimref27.Play.
-/
import Derived.Test.YtgbopmgeicokoaaRb27
import Derived.Test.YtgbopmgeicokoaaRt27
import Derived.Test.YtgbopmgeicokoaaPar
namespace Go.Proofs.Ytgbopmgeicokoaa
open Go.RowKit
set_option linter.unusedVariables false
set_option linter.unusedSimpArgs false

/-- a turn, whether anything happens or not -/
theorem rt27_any (l : Lit) (w : World) (B gs : Nat) (S : LS) (es : List Ev) (M : RM) (u : Tn) (hl : LitAt w B l) (hBw : B ≤ w.heap.size) (hgs : B ≤ gs) (hb : Blk w gs 116 (rsL M l.tn l.wn)) (hr : RSB w B l.tn l.wn S (xAt es) es M) (hg : GoodS l S) (hok : okLit l = true) (hen : es.length ≤ 100000) :
    Calls Try.prog 94 #[litV l, .pointer (some ⟨gs, 0, none⟩), tnV u] w (Rt27R l B gs S es u M.Z w) := by
  cases hp : pickS l S u with
  | some x => exact rt27_yes l w B gs S es M u x hl hBw hgs hb hr hg hok hen hp
  | none =>
    refine (rt27_no l w B gs S es M u hl hBw hb hr hg hok hp).mono ?_
    rintro e w' ⟨rfl, hb9⟩
    obtain ⟨e1, e2⟩ := pick_ev_none hp
    refine ⟨by rw [hp]; rfl, hb9.mono hBw, M, hb.below hb9 hb.lt, ?_⟩
    rw [e1]
    have : esN l S u es = es := by unfold esN; rw [e2]; simp
    rw [this]
    exact ⟨hr.on hb9, rfl⟩
end Go.Proofs.Ytgbopmgeicokoaa
