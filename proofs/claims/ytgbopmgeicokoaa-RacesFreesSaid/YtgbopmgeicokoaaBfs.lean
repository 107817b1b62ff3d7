/-
  Going through all states, breadth first: plain data. 'What is still to come' from node i, thread t on.
-/
import Derived.Test.YtgbopmgeicokoaaFre
import Derived.Test.YtgbopmgeicokoaaRt27
namespace Go.Proofs.Ytgbopmgeicokoaa
open Go.RowKit

/-- a node: the state, its events, the threads by which it was come to -/
structure Nd where
  S : LS
  es : List Ev
  way : List Nat
inductive Ans where
  | free
  | race (way : List Nat)
  | many
inductive Stp where
  | go (ns : List Nd)
  | stop (a : Ans)
/-- a node as a list of numbers -/
def lastK (n nw : Nat) (la : Nat → Nat → Int) : List Int := (List.range (nw * n)).map fun c => la (c / n) (c % n)
def flat19 (n : Nat) (S : LS) : List Int := S.ws ++ (List.range n).flatMap fun t => [S.r t 0, S.r t 1, S.r t 2, S.r t 3, (S.p t : Int), 0]
def flatK (n nw : Nat) (S : LS) (es : List Ev) : List Int :=
  flat19 n S ++ ((List.range n).flatMap fun t => clkL n ((xAt es).m t)) ++ ((List.range nw).flatMap fun a => clkL n ((xAt es).wd a)) ++ lastK n nw (lastE es 1) ++ lastK n nw (lastE es 2) ++ lastK n nw (lastE es 3) ++ lastK n nw (lastE es 9)
def keyN (l : Lit) (x : Nd) : List Int := flatK l.tn l.wn x.S x.es
def tnB (t : Nat) : Tn := ⟨t, false, 0⟩
/-- the node that a thread's turn makes -/
def kidN (l : Lit) (x : Nd) (t : Nat) : Nd := ⟨turnS l x.S (tnB t), esN l x.S (tnB t) x.es, x.way ++ [t]⟩
def raceN (x : Nd) : Bool := !(rcsE x.es x.es.length).isEmpty
def bstep (l : Lit) (ns : List Nd) (x : Nd) (t : Nat) : Stp :=
  if (pickS l x.S (tnB t)).isNone then .go ns
  else if raceN (kidN l x t) then .stop (.race (kidN l x t).way)
  else if (ns.map (keyN l)).contains (keyN l (kidN l x t)) then .go ns
  else if ns.length = 30000 then .stop .many
  else .go (ns ++ [kidN l x t])
/-- the threads from t on; k of them are still to come -/
def brow (l : Lit) (x : Nd) : Nat → List Nd → Nat → Stp
  | 0, ns, _ => .go ns
  | k + 1, ns, t => match bstep l ns x t with
    | .go ns' => brow l x k ns' (t + 1)
    | .stop a => .stop a
def bfs (l : Lit) : Nat → List Nd → Nat → Ans
  | 0, _, _ => .free
  | f + 1, ns, i => match ns[i]? with
    | none => .free
    | some x => match brow l x l.tn ns 0 with
      | .go ns' => bfs l f ns' (i + 1)
      | .stop a => a
def rootN (l : Lit) : Nd := ⟨firstS l, [], []⟩
def freeN (l : Lit) : Ans := bfs l 30001 [rootN l] 0
/-- what holds of every node that is come to -/
structure OkN (l : Lit) (x : Nd) : Prop where
  good : GoodS l x.S
  wf : ∀ e ∈ x.es, EvWf e
  ok : ∀ e ∈ x.es, EvOk l e
  le : x.es.length ≤ x.way.length
  none : rcsE x.es x.es.length = []
  th : ∀ t ∈ x.way, t < l.tn
theorem OkN.root {l : Lit} (hl : l.ws.length = l.wn) : OkN l (rootN l) := ⟨GoodS.first hl, fun e h => (by cases h), fun e h => (by cases h), Nat.le_refl _, rfl, fun t h => (by cases h)⟩
theorem esN_mem {l : Lit} {S : LS} {u : Tn} {es : List Ev} {e : Ev} (h : e ∈ esN l S u es) : e ∈ es ∨ evOf l S u = some e := by
  unfold esN at h
  rcases List.mem_append.1 h with h | h
  · exact Or.inl h
  · cases he : evOf l S u with
    | none => rw [he] at h; cases h
    | some b => rw [he] at h; simp at h; subst h; exact Or.inr rfl
theorem OkN.kid {l : Lit} {x : Nd} (h : OkN l x) (hok : okLit l = true) {t : Nat} (ht : t < l.tn) (hr : raceN (kidN l x t) = false) : OkN l (kidN l x t) where
  good := turnS_good h.good _
  wf := fun e he => (esN_mem he).elim (h.wf e) (fun h9 => evOf_wf h9)
  ok := fun e he => (esN_mem he).elim (h.ok e) (fun h9 => evOf_ok hok h9)
  le := by
    show (esN l x.S (tnB t) x.es).length ≤ (x.way ++ [t]).length
    unfold esN
    rw [List.length_append, List.length_append]
    have := h.le
    cases evOf l x.S (tnB t) <;> simp <;> omega
  none := by
    unfold raceN at hr
    simpa using hr
  th := fun q hq => by
    have hq : q ∈ x.way ++ [t] := hq
    rcases List.mem_append.1 hq with h9 | h9
    · exact h.th q h9
    · simp at h9; omega
/-- nodes in their order: each is well, and its way is no longer than its place -/
def OkNs (l : Lit) (ns : List Nd) : Prop := ∀ i x, ns[i]? = some x → OkN l x ∧ x.way.length ≤ i
theorem OkNs.root {l : Lit} (hl : l.ws.length = l.wn) : OkNs l [rootN l] := fun i x h => by
  cases i with
  | zero => simp at h; subst h; exact ⟨OkN.root hl, Nat.le_refl _⟩
  | succ i => simp at h
theorem OkNs.snoc {l : Lit} {ns : List Nd} {i : Nat} {x : Nd} {t : Nat} (h : OkNs l ns) (hok : okLit l = true) (hx : ns[i]? = some x) (ht : t < l.tn) (hr : raceN (kidN l x t) = false) : OkNs l (ns ++ [kidN l x t]) := fun j y hy => by
  by_cases hj : j < ns.length
  · rw [List.getElem?_append_left hj] at hy
    exact h j y hy
  · rw [List.getElem?_append_right (by omega)] at hy
    have hi := (List.getElem?_eq_some_iff.1 hx).1
    cases hd : j - ns.length with
    | zero =>
      rw [hd] at hy
      simp at hy
      subst hy
      refine ⟨(h i x hx).1.kid hok ht hr, ?_⟩
      have := (h i x hx).2
      show (x.way ++ [t]).length ≤ j
      simp
      omega
    | succ q => rw [hd] at hy; simp at hy
theorem bstep_none {l : Lit} {ns : List Nd} {x : Nd} {t : Nat} (h : pickS l x.S (tnB t) = none) : bstep l ns x t = .go ns := by unfold bstep; rw [h]; rfl
section
variable {l : Lit} {ns : List Nd} {x : Nd} {t : Nat} {y : Ins}
theorem bstep_race (h : pickS l x.S (tnB t) = some y) (hr : raceN (kidN l x t) = true) : bstep l ns x t = .stop (.race (kidN l x t).way) := by unfold bstep; rw [h, hr]; rfl
theorem bstep_seen (h : pickS l x.S (tnB t) = some y) (hr : raceN (kidN l x t) = false) (hc : (ns.map (keyN l)).contains (keyN l (kidN l x t)) = true) : bstep l ns x t = .go ns := by unfold bstep; rw [h, hr, hc]; rfl
theorem bstep_many (h : pickS l x.S (tnB t) = some y) (hr : raceN (kidN l x t) = false) (hc : (ns.map (keyN l)).contains (keyN l (kidN l x t)) = false) (hm : ns.length = 30000) : bstep l ns x t = .stop .many := by unfold bstep; rw [h, hr, hc]; simp [hm]
theorem bstep_new (h : pickS l x.S (tnB t) = some y) (hr : raceN (kidN l x t) = false) (hc : (ns.map (keyN l)).contains (keyN l (kidN l x t)) = false) (hm : ns.length ≠ 30000) : bstep l ns x t = .go (ns ++ [kidN l x t]) := by unfold bstep; rw [h, hr, hc]; simp [hm]
theorem brow_go {k : Nat} {ns' : List Nd} (h : bstep l ns x t = .go ns') : brow l x (k + 1) ns t = brow l x k ns' (t + 1) := by rw [brow, h]
theorem brow_stop {k : Nat} {a : Ans} (h : bstep l ns x t = .stop a) : brow l x (k + 1) ns t = .stop a := by rw [brow, h]
theorem bfs_go {f i : Nat} {ns' : List Nd} (hx : ns[i]? = some x) (h : brow l x l.tn ns 0 = .go ns') : bfs l (f + 1) ns i = bfs l f ns' (i + 1) := by rw [bfs, hx]; simp only [h]
theorem bfs_stop {f i : Nat} {a : Ans} (hx : ns[i]? = some x) (h : brow l x l.tn ns 0 = .stop a) : bfs l (f + 1) ns i = a := by rw [bfs, hx]; simp only [h]
theorem bfs_end {f i : Nat} (h : ns[i]? = none) : bfs l f ns i = .free := by
  cases f with
  | zero => rfl
  | succ f => rw [bfs, h]
end
/-- races by the numbers -/
theorem raceN_none {l : Lit} {x : Nd} {t : Nat} (h : OkN l x) (he : evOf l x.S (tnB t) = none) : raceN (kidN l x t) = false := by
  unfold raceN kidN esN
  rw [he]
  simp [h.none]
theorem raceN_some {l : Lit} {x : Nd} {t : Nat} {e : Ev} (h : OkN l x) (hok : okLit l = true) (he : evOf l x.S (tnB t) = some e) (hl : x.es.length < 1000000) : raceN (kidN l x t) = foundB (xAt x.es) (lastE x.es) e 4 := by
  have hn := okLit_num hok
  rw [found_iff h.wf (fun a ha => by have := (h.ok a ha).1; omega) (evOf_wf he) hl h.none]
  unfold raceN kidN esN
  rw [he]
  rfl
end Go.Proofs.Ytgbopmgeicokoaa
