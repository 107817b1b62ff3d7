/-
Going through all states, breadth first: plain data. 'What i
-/
import Derived.Test.YtgjdgapfnfhklaaGreatZ22
import Derived.Test.YtgjdgapfnfhklaaGreatRt27
import Derived.Test.YtgjdgapfnfhklaaGreatZ26
import Derived.Test.YtgjdgapfnfhklaaGreatTickn
import Derived.Test.YtgjdgapfnfhklaaGreatZ20
import Derived.OwnWalk
set_option linter.unusedSimpArgs false
set_option linter.unusedVariables false
set_option maxRecDepth 100000
set_option maxHeartbeats 8000000
namespace Go.Proofs.YtgjdgapfnfhklaaGreat
open Go.RowKit
structure Nd where
 S : LS
 es : List Ev
 way : List Nat
inductive Ans where
 | free
 | race (way : List Nat)
 | many
inductive Stp where
 | go (ns : List Nd)
 | stop (a : Ans)
def lastK (n nw : Nat) (la : Nat -> Nat -> Int) : List Int := (List.range (nw * n)).map fun c => la (c / n) (c % n)
def flat19 (n : Nat) (S : LS) : List Int := S.ws ++ (List.range n).flatMap fun t => [S.r t 0, S.r t 1, S.r t 2, S.r t 3, (S.p t : Int), 0]
def flatK (n nw : Nat) (S : LS) (es : List Ev) : List Int :=
 flat19 n S ++ ((List.range n).flatMap fun t => clkL n ((xAt es).m t)) ++ ((List.range nw).flatMap fun a => clkL n ((xAt es).wd a)) ++ lastK n nw (lastE es 1) ++ lastK n nw (lastE es 2) ++ lastK n nw (lastE es 3) ++ lastK n nw (lastE es 9)
def keyN (l : Lit) (x : Nd) : List Int := flatK l.tn l.wn x.S x.es
def kidN (l : Lit) (x : Nd) (t : Nat) : Nd := ⟨turnS l x.S (tnB t), esN l x.S (tnB t) x.es, x.way ++ [t]⟩
def raceN (x : Nd) : Bool := !(rcsE x.es x.es.length).isEmpty
def bstep (l : Lit) (ns : List Nd) (x : Nd) (t : Nat) : Stp :=
 if (pickS l x.S (tnB t)).isNone then .go ns
 else if raceN (kidN l x t) then .stop (.race (kidN l x t).way)
 else if (ns.map (keyN l)).contains (keyN l (kidN l x t)) then .go ns
 else if ns.length = 30000 then .stop .many
 else .go (ns ++ [kidN l x t])
def brow (l : Lit) (x : Nd) : Nat -> List Nd -> Nat -> Stp
 | 0, ns, _ => .go ns
 | k + 1, ns, t => match bstep l ns x t with
  | .go ns' => brow l x k ns' (t + 1)
  | .stop a => .stop a
def bfs (l : Lit) : Nat -> List Nd -> Nat -> Ans
 | 0, _, _ => .free
 | f + 1, ns, i => match ns[i]? with
  | none => .free
  | some x => match brow l x l.tn ns 0 with
   | .go ns' => bfs l f ns' (i + 1)
   | .stop a => a
def rootN (l : Lit) : Nd := ⟨firstS l, [], []⟩
def freeN (l : Lit) : Ans := bfs l 30001 [rootN l] 0
structure OkN (l : Lit) (x : Nd) : Prop where
 good : GoodS l x.S
 wf : ∀ e ∈ x.es, EvWf e
 ok : ∀ e ∈ x.es, EvOk l e
 le : x.es.length <= x.way.length
 none : rcsE x.es x.es.length = []
 th : ∀ t ∈ x.way, t < l.tn
theorem OkN.root {l : Lit} (hl : l.ws.length = l.wn) : OkN l (rootN l) := ⟨GoodS.first hl, fun e h => (by cases h), fun e h => (by cases h), Nat.le_refl _, rfl, fun t h => (by cases h)⟩
theorem esN_mem {l : Lit} {S : LS} {u : Tn} {es : List Ev} {e : Ev} (h : e ∈ esN l S u es) : e ∈ es ∨ evOf l S u = some e := by
 unfold esN at h
 rcases List.mem_append.1 h with h | h
 ·exact Or.inl h
 ·cases he : evOf l S u with
  | none => rw [he] at h; cases h
  | some b => rw [he] at h; simp at h; subst h; exact Or.inr rfl
theorem OkN.kid {l : Lit} {x : Nd} (h : OkN l x) (hok : okLit l = true) {t : Nat} (ht : t < l.tn) (hr : raceN (kidN l x t) = false) : OkN l (kidN l x t) where
 good := turnS_good h.good _
 wf := fun e he => (esN_mem he).elim (h.wf e) (fun h9 => evOf_wf h9)
 ok := fun e he => (esN_mem he).elim (h.ok e) (fun h9 => evOf_ok hok h9)
 le := by
  show (esN l x.S (tnB t) x.es).length <= (x.way ++ [t]).length
  unfold esN
  rw [List.length_append, List.length_append]
  have := h.le
  cases evOf l x.S (tnB t) <;> simp <;> omega
 none := by
  unfold raceN at hr
  simpa using hr
 th := fun q hq => by
  have hq : q ∈ x.way ++ [t] := hq
  rcases List.mem_append.1 hq with h9 | h9
  ·exact h.th q h9
  ·simp at h9; omega
def OkNs (l : Lit) (ns : List Nd) : Prop := ∀ i x, ns[i]? = some x -> OkN l x /\ x.way.length <= i
theorem OkNs.root {l : Lit} (hl : l.ws.length = l.wn) : OkNs l [rootN l] := fun i x h => by
 cases i with
 | zero => simp at h; subst h; exact ⟨OkN.root hl, Nat.le_refl _⟩
 | succ i => simp at h
theorem OkNs.snoc {l : Lit} {ns : List Nd} {i : Nat} {x : Nd} {t : Nat} (h : OkNs l ns) (hok : okLit l = true) (hx : ns[i]? = some x) (ht : t < l.tn) (hr : raceN (kidN l x t) = false) : OkNs l (ns ++ [kidN l x t]) := fun j y hy => by
 by_cases hj : j < ns.length
 ·rw [List.getElem?_append_left hj] at hy
  exact h j y hy
 ·rw [List.getElem?_append_right (by omega)] at hy
  have hi := (List.getElem?_eq_some_iff.1 hx).1
  cases hd : j - ns.length with
  | zero =>
   rw [hd] at hy
   simp at hy
   subst hy
   refine ⟨(h i x hx).1.kid hok ht hr, ?_⟩
   have := (h i x hx).2
   show (x.way ++ [t]).length <= j
   simp
   omega
  | succ q => rw [hd] at hy; simp at hy
theorem bstep_none {l : Lit} {ns : List Nd} {x : Nd} {t : Nat} (h : pickS l x.S (tnB t) = none) : bstep l ns x t = .go ns := by unfold bstep; rw [h]; rfl
section
variable {l : Lit} {ns : List Nd} {x : Nd} {t : Nat} {y : Ins}
theorem bstep_race (h : pickS l x.S (tnB t) = some y) (hr : raceN (kidN l x t) = true) : bstep l ns x t = .stop (.race (kidN l x t).way) := by unfold bstep; rw [h, hr]; rfl
theorem bstep_seen (h : pickS l x.S (tnB t) = some y) (hr : raceN (kidN l x t) = false) (hc : (ns.map (keyN l)).contains (keyN l (kidN l x t)) = true) : bstep l ns x t = .go ns := by unfold bstep; rw [h, hr, hc]; rfl
theorem bstep_many (h : pickS l x.S (tnB t) = some y) (hr : raceN (kidN l x t) = false) (hc : (ns.map (keyN l)).contains (keyN l (kidN l x t)) = false) (hm : ns.length = 30000) : bstep l ns x t = .stop .many := by unfold bstep; rw [h, hr, hc]; simp [hm]
theorem bstep_new (h : pickS l x.S (tnB t) = some y) (hr : raceN (kidN l x t) = false) (hc : (ns.map (keyN l)).contains (keyN l (kidN l x t)) = false) (hm : ns.length ≠ 30000) : bstep l ns x t = .go (ns ++ [kidN l x t]) := by unfold bstep; rw [h, hr, hc]; simp [hm]
theorem brow_go {k : Nat} {ns' : List Nd} (h : bstep l ns x t = .go ns') : brow l x (k + 1) ns t = brow l x k ns' (t + 1) := by rw [brow, h]
theorem brow_stop {k : Nat} {a : Ans} (h : bstep l ns x t = .stop a) : brow l x (k + 1) ns t = .stop a := by rw [brow, h]
theorem bfs_go {f i : Nat} {ns' : List Nd} (hx : ns[i]? = some x) (h : brow l x l.tn ns 0 = .go ns') : bfs l (f + 1) ns i = bfs l f ns' (i + 1) := by rw [bfs, hx]; simp only [h]
theorem bfs_stop {f i : Nat} {a : Ans} (hx : ns[i]? = some x) (h : brow l x l.tn ns 0 = .stop a) : bfs l (f + 1) ns i = a := by rw [bfs, hx]; simp only [h]
theorem bfs_end {f i : Nat} (h : ns[i]? = none) : bfs l f ns i = .free := by
 cases f with
 | zero => rfl
 | succ f => rw [bfs, h]
end
theorem raceN_none {l : Lit} {x : Nd} {t : Nat} (h : OkN l x) (he : evOf l x.S (tnB t) = none) : raceN (kidN l x t) = false := by
 unfold raceN kidN esN
 rw [he]
 simp [h.none]
theorem raceN_some {l : Lit} {x : Nd} {t : Nat} {e : Ev} (h : OkN l x) (hok : okLit l = true) (he : evOf l x.S (tnB t) = some e) (hl : x.es.length < 1000000) : raceN (kidN l x t) = foundB (xAt x.es) (lastE x.es) e 4 := by
 have hn := okLit_num hok
 rw [found_iff h.wf (fun a ha => by have := (h.ok a ha).1; omega) (evOf_wf he) hl h.none]
 unfold raceN kidN esN
 rw [he]
 rfl
end Go.Proofs.YtgjdgapfnfhklaaGreat
namespace Go.Proofs.YtgjdgapfnfhklaaGreat
open Go.RowKit
def kdOf (q : Nat) : Int := if q = 3 then 9 else (q + 1 : Nat)
def lastC (la : Int -> Nat -> Nat -> Int) (c : Nat) : Int := la (kdOf (c % 4)) (c / 16) (c / 4 % 4)
def lastL (la : Int -> Nat -> Nat -> Int) : List Value := ints ((List.range 96).map (lastC la))
theorem lastL_len (la : Int -> Nat -> Nat -> Int) : (lastL la).length = 96 := by simp [lastL, ints]
theorem lastL_at (la : Int -> Nat -> Nat -> Int) {c : Nat} (h : c < 96) : (lastL la)[c]? = some (.int .i64 (lastC la c)) := by
 unfold lastL
 exact ints_get (by simp [h])
theorem lastC_of (la : Int -> Nat -> Nat -> Int) {a t q : Nat} (ht : t < 4) (hq : q < 4) : lastC la (a * 16 + t * 4 + q) = la (kdOf q) a t := by
 unfold lastC
 rw [show (a * 16 + t * 4 + q) % 4 = q by omega, show (a * 16 + t * 4 + q) / 16 = a by omega, show (a * 16 + t * 4 + q) / 4 % 4 = t by omega]
def setL (la : Int -> Nat -> Nat -> Int) (q a t : Nat) (v : Int) : Int -> Nat -> Nat -> Int := fun kd b u => if kd = kdOf q /\ b = a /\ u = t then v else la kd b u
theorem kdOf_inj {p q : Nat} (hp : p < 4) (hq : q < 4) (h : kdOf p = kdOf q) : p = q := by
 unfold kdOf at h
 split at h <;> split at h <;> omega
theorem lastL_set (la : Int -> Nat -> Nat -> Int) {a t q : Nat} (ht : t < 4) (hq : q < 4) (ha : a < 6) (v : Int) : (lastL la).set (a * 16 + t * 4 + q) (.int .i64 v) = lastL (setL la q a t v) := by
 apply List.ext_getElem?
 intro c
 by_cases hc : c < 96
 ·rw [lastL_at _ hc]
  by_cases he : c = a * 16 + t * 4 + q
  ·subst he
   rw [List.getElem?_set_self (by rw [lastL_len]; exact hc), lastC_of _ ht hq]
   unfold setL
   rw [if_pos ⟨rfl, rfl, rfl⟩]
  ·rw [List.getElem?_set_ne (Ne.symm he), lastL_at _ hc]
   unfold lastC setL
   rw [if_neg]
   rintro ⟨h1, h2, h3⟩
   have := kdOf_inj (by omega) hq h1
   omega
 ·rw [List.getElem?_eq_none (by simp [lastL, ints]; omega), List.getElem?_eq_none (by simp [lastL, ints]; omega)]
structure NB (W : World) (gn : Nat) (pre post : List Value) (x : TS) (la : Int -> Nat -> Nat -> Int) : Prop where
 p : pre.length = 30
 b : Blk W gn 105 (pre ++ (tL x ++ (lastL la ++ post)))
section
variable {W W' : World} {gn : Nat} {pre post : List Value} {x : TS} {la : Int -> Nat -> Nat -> Int}
theorem NB.tb (h : NB W gn pre post x la) : TB W gn pre (lastL la ++ post) (tL x) := ⟨h.p, tL_len x, h.b⟩
theorem NB.of {y : TS} (h : TB W gn pre (lastL la ++ post) (tL y)) : NB W gn pre post y la := ⟨h.1, h.2.2⟩
theorem NB.on (h : NB W gn pre post x la) (hb : Below W.heap.size W W') : NB W' gn pre post x la := ⟨h.p, h.b.below hb h.b.lt⟩
theorem NB.last (h : NB W gn pre post x la) {c : Nat} (hc : c < 96) : W.cell? ⟨gn, 70 + c, none⟩ = some (.int .i64 (lastC la c)) := by
 refine h.b.cell ?_
 rw [List.getElem?_append_right (by rw [h.p]; omega), h.p, List.getElem?_append_right (by rw [tL_len]; omega), tL_len, List.getElem?_append_left (by rw [lastL_len]; omega), show 70 + c - 30 - 40 = c by omega]
 exact lastL_at la hc
theorem NB.lastq (h : NB W gn pre post x la) {a t q i : Nat} (hi : i = 70 + (a * 16 + t * 4 + q)) (ha : a < 6) (ht : t < 4) (hq : q < 4) : W.cell? ⟨gn, i, none⟩ = some (.int .i64 (la (kdOf q) a t)) := by
 subst hi
 rw [h.last (by omega), lastC_of _ ht hq]
theorem NB.put (h : NB W gn pre post x la) {a t q i : Nat} (hi : i = 70 + (a * 16 + t * 4 + q)) (ha : a < 6) (ht : t < 4) (hq : q < 4) (v : Int) : NB (W.setCell ⟨gn, i, none⟩ (.int .i64 v)) gn pre post x (setL la q a t v) := by
 subst hi
 refine ⟨h.p, ?_⟩
 have h1 := h.b.set_ (70 + (a * 16 + t * 4 + q)) (.int .i64 v)
 rw [List.set_append_right _ _ (by rw [h.p]; omega), h.p, List.set_append_right _ _ (by rw [tL_len]; omega), tL_len, List.set_append_left _ _ (by rw [lastL_len]; omega), show 70 + (a * 16 + t * 4 + q) - 30 - 40 = a * 16 + t * 4 + q by omega, lastL_set la ht hq ha] at h1
 exact h1
end
theorem late_any (W : World) (g5 g7 g8 q t : Nat) (m v : Int) (h5 : W.cell? ⟨g5, t, none⟩ = some (.int .i64 m)) (h7 : W.cell? ⟨g7, 0, none⟩ = some (.int .i64 t)) (h8 : W.cell? ⟨g8, q, none⟩ = some (.int .i64 v)) (ht : t < 4) (hq : q < 4) :
  Calls Tryz.prog 57 #[.int .i64 q, .pointer (some ⟨g5, 0, none⟩), .pointer (some ⟨g7, 0, none⟩), .pointer (some ⟨g8, 0, none⟩)] W (BoolR (decide (m < v)) W) := by
 have e0 : (0 : Int) <= t := by omega
 have e1 : (t : Int) < 4 := by omega
 have e2 : (0 : Int) <= q := by omega
 have e3 : (q : Int) < 4 := by omega
 go_enter Tryz.func57, Tryz.ntmps57
 go_upto_region 1 with fail
 go_quiet (fail)
 go_wp2_with fail
 go_ret
 exact ⟨rfl, (Below.refl _ _).drewN _⟩
end Go.Proofs.YtgjdgapfnfhklaaGreat
namespace Go.Proofs.YtgjdgapfnfhklaaGreat
open Go.RowKit
theorem lastK_len (n nw : Nat) (f : Nat -> Nat -> Int) : (lastK n nw f).length = nw * n := by simp [lastK]
theorem lastK_at {n nw : Nat} {f : Nat -> Nat -> Int} {c : Nat} (h : c < nw * n) : (lastK n nw f)[c]? = some (f (c / n) (c % n)) := by simp [lastK, h]
theorem div_mod_of {n a t : Nat} (ht : t < n) : (a * n + t) / n = a /\ (a * n + t) % n = t := by
 have hn : 0 < n := by omega
 constructor
 ·rw [Nat.mul_comm, Nat.mul_add_div hn, Nat.div_eq_of_lt ht, Nat.add_zero]
 ·rw [Nat.mul_comm, Nat.mul_add_mod, Nat.mod_eq_of_lt ht]
theorem lastK_set {n nw : Nat} (f : Nat -> Nat -> Int) {a t : Nat} (ha : a < nw) (ht : t < n) (v : Int) : (ints (lastK n nw f)).set (a * n + t) (.int .i64 v) = ints (lastK n nw fun b u => if b = a /\ u = t then v else f b u) := by
 rw [ints_set]
 congr 1
 apply List.ext_getElem?
 intro c
 have hlt : a * n + t < nw * n := by
  have : (a + 1) * n <= nw * n := Nat.mul_le_mul_right n ha
  rw [Nat.add_mul, Nat.one_mul] at this
  omega
 by_cases hc : c < nw * n
 ·rw [lastK_at hc]
  by_cases he : c = a * n + t
  ·subst he
   obtain ⟨e1, e2⟩ := div_mod_of (a := a) ht
   rw [List.getElem?_set_self (by rw [lastK_len]; exact hc), e1, e2, if_pos ⟨rfl, rfl⟩]
  ·rw [List.getElem?_set_ne (Ne.symm he), lastK_at hc, if_neg]
   rintro ⟨h1, h2⟩
   apply he
   rw [<- h1, <- h2, Nat.mul_comm]
   exact (Nat.div_add_mod c n).symm
 ·rw [List.getElem?_eq_none (by rw [List.length_set, lastK_len]; omega), List.getElem?_eq_none (by rw [lastK_len]; omega)]
theorem gb_none' {w w' : World} (h : w.grownBy w' none) : Below w.heap.size w w' := (Below.refl _ _).grown h (Nat.le_refl _) (fun q hq => by cases hq)
def LsR (N : Nat) (xs : List Int) (w : World) (e : Ending) (w' : World) : Prop := ∃ g, e = .returned (.slice (some ⟨g, 0, none⟩) N N) /\ w.heap.size <= g /\ Rw w' g 3 1 N N (ints xs) /\ Below w.heap.size w w'
theorem made_last (n nw : Nat) : (madeCells (Value.int .i64 0).cells (nw * n * 1)).toList = ints (lastK n nw fun _ _ => 0) := by
 show (madeCells #[Value.int .i64 0] (nw * n * 1)).toList = _
 rw [madeCells_one, Nat.mul_one]
 apply List.ext_getElem
 ·simp [ints, lastK]
 ·intro i h1 h2
  simp [ints, lastK]
theorem hitK_cases (kd : Int) (e : Ev) : hitK kd e = (decide (e.k = kd) || (decide (kd = 9) && (decide (e.k = 3) && e.wr))) := rfl
theorem last_any (l : Lit) (A : Option Addr) (m k : Nat) (h0 h1 h2 h3 h4 h5 : Value) (es : List Ev) (cs : List (Nat × Nat)) (kd : Int) (w : World) (h : LitAt w w.heap.size l) (hok : okLit l = true) (hE : EvcAt w w.heap.size l.tn es cs A) (hm : es.length = m) (hm2 : m <= 100000) (hes : ∀ e ∈ es, EvOk l e)
  (g0 : h0.oneCell' = true) (g1 : h1.oneCell' = true) (g2 : h2.oneCell' = true) (g3 : h3.oneCell' = true) (g4 : h4.oneCell' = true) (g5 : h5.oneCell' = true) :
  Calls Tryz.prog 48 #[litV l, .agg #[h0, h1, h2, h3, h4, h5, .slice A m k], .int .i64 kd] w (LsR (l.wn * l.tn) (lastK l.tn l.wn (lastE es kd)) w) := by
 obtain ⟨n1, n2, n3, n4⟩ := okLit_num hok
 obtain ⟨w0, hw0⟩ : ∃ w0 : World, w0 = (w.alloc (.cells #[.slice l.wA l.wn l.wk, .slice l.tA l.tn l.tk] 25)).alloc (.cells #[h0, h1, h2, h3, h4, h5, .slice A m k] 80) := ⟨_, rfl⟩
 have HB0 : Hid (Blk w0 w.heap.size 25 (litL l)) := by rw [hw0]; exact (Blk.new w 25 (litL l)).alloc _
 have HZ0 : Hid (Blk w0 (w.heap.size + 1) 80 [h0, h1, h2, h3, h4, h5, .slice A m k]) := by
  rw [hw0]
  have h9 := Blk.new (w.alloc (.cells #[.slice l.wA l.wn l.wk, .slice l.tA l.tn l.tk] 25)) 80 [h0, h1, h2, h3, h4, h5, .slice A m k]
  rw [World.size_alloc] at h9
  exact h9
 have HW0 : Hid (Below w.heap.size w w0) := by rw [hw0]; exact ((Below.refl _ _).alloc (Nat.le_refl _) _).alloc (by simp) _
 have HEv := Lh hE
 have HM := Lh hm
 have HOk := Lh hes
 have HWe := Lh hw0
 have hz0 : w.heap.size + 1 < w0.heap.size := HZ0.o.lt
 clear h hw0 hE hm hes
 obtain ⟨N, hN⟩ : ∃ N : Nat, N = l.wn * l.tn := ⟨_, rfl⟩
 have hN24 : N <= 24 := by
  rw [hN]
  exact Nat.le_trans (Nat.mul_le_mul n4 n2) (by omega)
 have hN0 : 0 < N := by rw [hN]; exact Nat.mul_pos (by omega) (by omega)
 have HN := Lh hN
 rw [<- hN]
 have hNi : IntKind.i64.wrap ((l.wn : Int) * (l.tn : Int)) = (N : Int) := by
  rw [show ((l.wn : Int) * (l.tn : Int)) = (N : Int) by rw [hN]; push_cast; rfl]
  exact IntWalk.i64_in _ (by omega)
 have hNw : wrap64 ((l.wn : Int) * (l.tn : Int)) = (N : Int) := by rw [<- w64]; exact hNi
 obtain ⟨i1, hi1, hi1z, hi1s, hi1b⟩ := info_parts info_int1
 clear hN
 go_enter Tryz.func48, Tryz.ntmps48
 go_upto_region 1 with fail
 rw [<- HWe.o]
 clear HWe
 have q0 := HB0.o.cell (i := 0) rfl
 have q1 := HB0.o.cell (i := 1) rfl
 go_upto_region 2 with (at_make; go_must (refine wpList_make_full _ rfl _ _ 22 rfl w0.heap.size 3 i1 (.int .i64 0) 1 Tryz.underlying22 hi1 hi1z hi1s .i64 .i64 _ _ N rfl rfl (by simp [*]) (by simp [*]) (by rw [hi1b]; omega) (by simp only [maxLen]; omega) (Nat.le_refl _) ?_; intro w1 hown1 hg1))
 rw [HN.o, made_last, <- HN.o] at hown1
 obtain ⟨go, hgo, hgoB, hRo⟩ := Rw.of_own hown1 hN0
 injection hgo with hgo
 injection hgo with hgo _
 rw [hgo]
 have HRo := Lh hRo
 have hb1 : Below w0.heap.size w0 w1 := gb_none' hg1
 have HB1 := Lh hb1
 clear hown1 hg1 hgo hRo hb1 q0 q1 hi1 hi1z hi1s hi1b hNi hNw
 go_upto_region 3 with fail
 go_loopg [8] m (fun gk i wr => ∃ j : Nat, j + gk = m /\ i = .int .i64 j /\ Hid (Below w0.heap.size w0 wr) /\ Hid (Rw wr go 3 1 N N (ints (lastK l.tn l.wn (lastAt es kd j)))))
 case atStart => exact ⟨0, by omega, rfl, HB1, HRo⟩
 case round =>
  clear HB1 HRo
  obtain ⟨j, hj, rfl, HBj, HRj⟩ := hrel
  have q6 := (HZ0.o.below HBj.o HZ0.o.lt).cell (i := 6) rfl
  by_cases hlt : j < m
  ·have e1 : (j : Int) < m := by omega
   have e0 : (0 : Int) <= j := by omega
   obtain ⟨b, hb⟩ := at_lt (show j < es.length by rw [HM.o]; exact hlt)
   have hbok := HOk.o b (List.mem_of_getElem? hb)
   have HBw : Hid (Below w.heap.size w wr) := HW0.o.trans (HBj.o.mono HW0.o.size)
   have HEw := Lh (HEv.o.on HBw.o)
   obtain ⟨p, b1, o1, hp, hA1, hb1, c0, c1, c2, c3, c4⟩ := HEw.o.at_ hb
   obtain ⟨g9, o9, hg9, hg9b, hc9⟩ := (HEw.o.cr j p hp).2 (by omega)
   injection hg9 with hg9
   injection hg9 with e8 e9
   subst e8 e9
   have c5 := hc9 b.t _ (clkV_get hbok.1)
   rw [Nat.zero_add] at c5
   have HNx : Hid (lastAt es kd (j + 1) = fun a t => if hitK kd b = true /\ a = b.a /\ t = b.t then ckAt es j b.t else lastAt es kd j a t) := by
    refine Lh ?_
    funext a t
    exact lastAt_next hb a t
   have HGb := Lh hb
   subst hA1
   have hbt : b.t < l.tn := hbok.1
   have hba : b.a < l.wn := hbok.2
   clear hb hp hc9 hbok
   go_upto_region 6 with fail
   obtain ⟨gz, hgz⟩ : ∃ gz, gz = wr.heap.size := ⟨_, rfl⟩
   obtain ⟨x1, hx1, HY, hbx⟩ : ∃ Z9, Z9 = wr.alloc (.cells #[.int .i64 b.t, .int .i64 b.k, .int .i64 b.a, .bool b.wr, .slice (some ⟨p.1, 0, none⟩) l.tn p.2] 147) /\ Hid (Blk Z9 gz 147 [.int .i64 b.t, .int .i64 b.k, .int .i64 b.a, .bool b.wr, .slice (some ⟨p.1, 0, none⟩) l.tn p.2]) /\ Below wr.heap.size wr Z9 := ⟨_, rfl, by rw [hgz]; exact Blk.new _ _ _, (Below.refl _ _).alloc (Nat.le_refl _) _⟩
   rw [<- hx1, <- hgz]
   have HBx := Lh (HBj.o.trans (hbx.mono HBj.o.size))
   have HRx := Lh (HRj.o.on hbx)
   have HC5 : Hid (x1.cell? ⟨p.1, b.t, none⟩ = some (.int .i64 (ckAt es j b.t))) := Lh ((hbx.cell (World.block_lt_of_cell? wr _ c5)).trans c5)
   clear hx1 hgz hbx c0 c1 c2 c3 c4 c5 q6 HBj HRj
   have y0 := HY.o.cell (i := 0) rfl
   have y1 := HY.o.cell (i := 1) rfl
   have y2 := HY.o.cell (i := 2) rfl
   have y3 := HY.o.cell (i := 3) rfl
   have y4 := HY.o.cell (i := 4) rfl
   go_upto_region 7 with fail
   go_cut [49] (fun s49 wc => s49 = .bool (hitK kd b) /\ x1 = wc)
   case first =>
    obtain ⟨bt, bk, ba, bw⟩ := b
    dsimp only at y0 y1 y2 y3 y4
    by_cases r1 : bk = kd
    case pos =>
     subst r1
     go_wp2_with fail
     go_meet
     exact ⟨by rw [hitK_cases]; simp, rfl⟩
    have m1 : (bk == kd) = false := by simpa using r1
    by_cases r9 : kd = 9
    case neg =>
     have m9 : (kd == 9) = false := by simpa using r9
     go_wp2_with fail
     go_meet
     exact ⟨by rw [hitK_cases]; simp [r1, r9], rfl⟩
    subst r9
    by_cases r3 : bk = 3
    case neg =>
     have m3 : (bk == 3) = false := by simpa using r3
     go_wp2_with fail
     go_meet
     exact ⟨by rw [hitK_cases]; simp [r1, r3], rfl⟩
    subst r3
    go_wp2_with fail
    go_meet
    exact ⟨by rw [hitK_cases]; simp, rfl⟩
   case rest =>
    obtain ⟨rfl, rfl⟩ := hcut
    clear y3
    cases hh : hitK kd b with
    | false =>
     have HNo : Hid (lastAt es kd (j + 1) = lastAt es kd j) := by
      rw [HNx.o]
      refine Lh ?_
      funext a t
      have hne : ¬ (hitK kd b = true /\ a = b.a /\ t = b.t) := fun h9 => by rw [hh] at h9; cases h9.1
      exact if_neg hne
     have HRy : Hid (Rw x1 go 3 1 N N (ints (lastK l.tn l.wn (lastAt es kd (j + 1))))) := Lh (Eq.mpr (congrArg (fun f => Rw x1 go 3 1 N N (ints (lastK l.tn l.wn f))) HNo.o) HRx.o)
     clear hh
     go_wp2_with fail
     go_roundg (gk - 1)
     case measure => omega
     case rel => exact ⟨j + 1, by omega, by go_num, HBx, HRy⟩
    | true =>
     have HYs : Hid (lastAt es kd (j + 1) = fun a t => if a = b.a /\ t = b.t then ckAt es j b.t else lastAt es kd j a t) := by
      rw [HNx.o]
      refine Lh ?_
      funext a t
      by_cases h9 : a = b.a /\ t = b.t
      ·rw [if_pos ⟨hh, h9⟩, if_pos h9]
      ·rw [if_neg (fun h8 => h9 h8.2), if_neg h9]
     have hq : b.a * l.tn + b.t < N := by
      rw [HN.o]
      have : (b.a + 1) * l.tn <= l.wn * l.tn := Nat.mul_le_mul_right _ hba
      rw [Nat.add_mul, Nat.one_mul] at this
      omega
     obtain ⟨q, hqe⟩ : ∃ q, q = b.a * l.tn + b.t := ⟨_, rfl⟩
     rw [<- hqe] at hq
     have f0 : (0 : Int) <= (q : Int) := by omega
     have f1 : (q : Int) < N := by omega
     have f2 : (0 : Int) <= (b.t : Int) := by omega
     have f3 : (b.t : Int) < l.tn := by omega
     obtain ⟨pr, hpr⟩ : ∃ pr, pr = b.a * l.tn := ⟨_, rfl⟩
     have hpq : (pr : Int) + (b.t : Int) = (q : Int) := by omega
     have hpN : (pr : Int) <= 24 := by omega
     have hqN : (q : Int) <= 24 := by omega
     have m1 : IntKind.i64.wrap ((b.a : Int) * (l.tn : Int)) = (pr : Int) := by
      rw [show ((b.a : Int) * (l.tn : Int)) = (pr : Int) by rw [hpr]; push_cast; rfl]
      exact wrap_small (by omega) (by omega)
     have m2 : IntKind.i64.wrap ((pr : Int) + (b.t : Int)) = (q : Int) := by rw [hpq]; exact wrap_small f0 (Int.le_trans hqN (by decide))
     have m3 : wrap64 ((b.a : Int) * (l.tn : Int)) = (pr : Int) := by rw [<- w64]; exact m1
     have m4 : wrap64 ((pr : Int) + (b.t : Int)) = (q : Int) := by rw [<- w64]; exact m2
     clear hpr hpq hpN hqN
     have HQe := Lh hqe
     clear hqe hh
     have q1 := (HB0.o.below HBx.o HB0.o.lt).cell (i := 1) rfl
     have c5 := HC5.o
     obtain ⟨uo, huo⟩ : ∃ u, x1.cell? ⟨go, q, none⟩ = some u := ⟨_, HRx.o.cell (ints_get (lastK_at (by rw [<- HN.o]; exact hq)))⟩
     have hfo := HRx.o.frozen q
     go_upto_region 8 with fail
     go_still_tail 20, (by kernel_rfl)
     clear m1 m2 m3 m4 c5 y0 y1 y2 y4 q1 f0 f1 f2 f3
     go_wp2_with fail
     have HRn : Hid (Rw (x1.drew.setCell ⟨go, q, none⟩ (.int .i64 (ckAt es j b.t))) go 3 1 N N (ints (lastK l.tn l.wn (lastAt es kd (j + 1))))) := by
      have h9 := HRx.o.drew.set_ q (.int .i64 (ckAt es j b.t))
      have e9 : (ints (lastK l.tn l.wn (lastAt es kd j))).set q (.int .i64 (ckAt es j b.t)) = ints (lastK l.tn l.wn (lastAt es kd (j + 1))) := by
       have e8 := lastK_set (lastAt es kd j) hba hbt (ckAt es j b.t)
       rw [<- HQe.o] at e8
       exact e8.trans (congrArg (fun f => ints (lastK l.tn l.wn f)) HYs.o.symm)
      exact Lh (Eq.mp (congrArg (fun xs => Rw (x1.drew.setCell ⟨go, q, none⟩ (.int .i64 (ckAt es j b.t))) go 3 1 N N xs) e9) h9)
     go_roundg (gk - 1)
     case measure => omega
     case rel => exact ⟨j + 1, by omega, by go_num, HBx.o.drew.setCell hgoB _, HRn⟩
  ·obtain rfl : j = m := by omega
   have hml := HM.o
   have HBw := Lh (HW0.o.trans (HBj.o.mono HW0.o.size))
   go_wp2_with fail
   go_ret
   refine ⟨go, rfl, Nat.le_trans HW0.o.size hgoB, ?_, HBw.o⟩
   have h9 := HRj.o
   unfold lastE
   rw [hml]
   exact h9
end Go.Proofs.YtgjdgapfnfhklaaGreat
