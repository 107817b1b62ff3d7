/-
Turns of a litmus program under sequential consistency, thei
-/
import Derived.Test.YtgjdgapfnfhklaaGreatZ23
import Derived.Test.YtgjdgapfnfhklaaGreatZ21
import Derived.Test.YtgjdgapfnfhklaaGreatZ0
set_option linter.unusedSimpArgs false
set_option linter.unusedVariables false
namespace Go.Proofs.YtgjdgapfnfhklaaGreat
open Go.RowKit
structure Tn where
 t : Int
 out : Bool
 a : Int
abbrev tnL (u : Tn) : List Value := [.int .i64 u.t, .bool u.out, .int .i64 u.a]
abbrev tnV (u : Tn) : Value := .agg #[.int .i64 u.t, .bool u.out, .int .i64 u.a]
def tnVals (l : List Tn) : List Value := l.flatMap tnL
structure Ev where
 t : Nat
 k : Int
 a : Nat
 wr : Bool
abbrev evL (e : Ev) : List Value := [.int .i64 e.t, .int .i64 e.k, .int .i64 e.a, .bool e.wr]
abbrev evV (e : Ev) : Value := .agg #[.int .i64 e.t, .int .i64 e.k, .int .i64 e.a, .bool e.wr]
def evVals (l : List Ev) : List Value := l.flatMap evL
theorem flat_len {α : Type} (f : α -> List Value) (q : Nat) (h : ∀ x, (f x).length = q) (l : List α) : (l.flatMap f).length = l.length * q := by
 induction l with
 | nil => simp
 | cons a l ih => rw [List.flatMap_cons, List.length_append, ih, h, List.length_cons, Nat.add_mul]; omega
theorem flat_get {α : Type} (f : α -> List Value) (q : Nat) (h : ∀ x, (f x).length = q) {l : List α} : ∀ {j : Nat} {x : α}, l[j]? = some x -> ∀ i, i < q -> (l.flatMap f)[j * q + i]? = (f x)[i]? := by
 induction l with
 | nil => intro j x h; simp at h
 | cons a l ih =>
  intro j x hx i hi
  rw [List.flatMap_cons]
  cases j with
  | zero =>
   simp at hx
   subst hx
   rw [Nat.zero_mul, Nat.zero_add, List.getElem?_append_left (by rw [h]; exact hi)]
  | succ j =>
   rw [List.getElem?_append_right (by rw [h, Nat.add_mul]; omega), <- ih (j := j) (by simpa using hx) i hi]
   congr 1
   rw [h, Nat.add_mul]
   omega
theorem tnVals_len (l : List Tn) : (tnVals l).length = l.length * 3 := flat_len _ 3 (fun _ => rfl) l
theorem tnVals_get {l : List Tn} {j : Nat} {x : Tn} (h : l[j]? = some x) (i : Nat) (hi : i < 3) : (tnVals l)[j * 3 + i]? = (tnL x)[i]? := flat_get _ 3 (fun _ => rfl) h i hi
theorem evVals_get {l : List Ev} {j : Nat} {x : Ev} (h : l[j]? = some x) (i : Nat) (hi : i < 4) : (evVals l)[j * 4 + i]? = (evL x)[i]? := flat_get _ 4 (fun _ => rfl) h i hi
theorem evVals_snoc (l : List Ev) (e : Ev) : evVals (l ++ [e]) = evVals l ++ evL e := by simp [evVals]
theorem evL_one (e : Ev) : ∀ u ∈ evL e, u.oneCell' = true := by intro u hu; simp at hu; rcases hu with rfl | rfl | rfl | rfl <;> rfl
def LS.w (S : LS) (a : Nat) : Int := S.ws.getD a 0
def LS.r (S : LS) (t q : Nat) : Int := S.rs.getD (t * 4 + q) 0
def LS.p (S : LS) (t : Nat) : Nat := S.ps.getD t 0
theorem LS.w_at {S : LS} {a : Nat} (h : a < S.ws.length) : S.ws[a]? = some (S.w a) := by unfold LS.w; simp [h]
theorem LS.r_at {S : LS} {t q : Nat} (h : t * 4 + q < S.rs.length) : S.rs[t * 4 + q]? = some (S.r t q) := by unfold LS.r; simp [h]
theorem LS.p_at {S : LS} {t : Nat} (h : t < S.ps.length) : S.ps[t]? = some (S.p t) := by unfold LS.p; simp [h]
def effS (S : LS) (t : Nat) (x : Ins) : LS :=
 if x.kind = 1 then ⟨S.ws, S.rs.set (t * 4 + x.reg.toNat) (S.w x.addr.toNat), S.ps⟩
 else if x.kind = 2 then ⟨S.ws.set x.addr.toNat (if 0 <= x.src then S.r t x.src.toNat else x.value), S.rs, S.ps⟩
 else if x.kind = 3 then (if S.w x.addr.toNat = x.old then ⟨S.ws.set x.addr.toNat x.value, S.rs.set (t * 4 + x.reg.toNat) 1, S.ps⟩ else ⟨S.ws, S.rs.set (t * 4 + x.reg.toNat) 0, S.ps⟩)
 else if x.kind = 5 then ⟨S.ws, S.rs.set (t * 4 + x.reg.toNat) x.value, S.ps⟩
 else if x.kind = 6 then ⟨S.ws, S.rs.set (t * 4 + x.reg.toNat) (IntKind.i64.wrap (S.r t x.reg.toNat + x.value)), S.ps⟩
 else S
def skipS (S : LS) (t : Nat) (x : Ins) : Nat := if x.kind = 7 /\ S.r t x.reg.toNat = x.value then x.count.toNat else 0
def nextS (S : LS) (t c : Nat) (x : Ins) : LS := ⟨(effS S t x).ws, (effS S t x).rs, S.ps.set t (min (S.p t + skipS S t x + 1) c)⟩
def codeOf (l : Lit) (t : Nat) : List Ins := match l.th[t]? with | some x => x.2 | none => []
def pickS (l : Lit) (S : LS) (u : Tn) : Option Ins := if 0 <= u.t /\ u.t < l.tn /\ u.out = false then (codeOf l u.t.toNat)[S.p u.t.toNat]? else none
def turnS (l : Lit) (S : LS) (u : Tn) : LS := match pickS l S u with | some x => nextS S u.t.toNat (codeOf l u.t.toNat).length x | none => S
def eventS (S' : LS) (t : Nat) (x : Ins) : Option Ev :=
 if x.kind = 1 then some ⟨t, 1, x.addr.toNat, false⟩
 else if x.kind = 2 then some ⟨t, 2, x.addr.toNat, true⟩
 else if x.kind = 3 then some ⟨t, 3, x.addr.toNat, decide (S'.r t x.reg.toNat = 1)⟩
 else none
def evOf (l : Lit) (S : LS) (u : Tn) : Option Ev := match pickS l S u with | some x => eventS (turnS l S u) u.t.toNat x | none => none
def firstS (l : Lit) : LS := ⟨l.ws, List.replicate (l.tn * 4) 0, List.replicate l.tn 0⟩
def playS (l : Lit) (us : List Tn) : Nat -> LS
 | 0 => firstS l
 | j + 1 => match us[j]? with | some u => turnS l (playS l us j) u | none => playS l us j
def playE (l : Lit) (us : List Tn) : Nat -> List Ev
 | 0 => []
 | j + 1 => match us[j]? with | some u => (match evOf l (playS l us j) u with | some e => playE l us j ++ [e] | none => playE l us j) | none => playE l us j
theorem playS_next {l : Lit} {us : List Tn} {j : Nat} {u : Tn} (h : us[j]? = some u) : playS l us (j + 1) = turnS l (playS l us j) u := by rw [playS, h]
theorem playE_some {l : Lit} {us : List Tn} {j : Nat} {u : Tn} {e : Ev} (h : us[j]? = some u) (he : evOf l (playS l us j) u = some e) : playE l us (j + 1) = playE l us j ++ [e] := by rw [playE, h]; simp only [he]
theorem playE_none {l : Lit} {us : List Tn} {j : Nat} {u : Tn} (h : us[j]? = some u) (he : evOf l (playS l us j) u = none) : playE l us (j + 1) = playE l us j := by rw [playE, h]; simp only [he]
theorem playE_len (l : Lit) (us : List Tn) : ∀ j, (playE l us j).length <= j
 | 0 => Nat.le_refl _
 | j + 1 => by
  have ih := playE_len l us j
  cases h : us[j]? with
  | none => rw [playE, h]; exact Nat.le_succ_of_le ih
  | some u =>
   cases he : evOf l (playS l us j) u with
   | none => rw [playE_none h he]; omega
   | some e => rw [playE_some h he, List.length_append]; simp; omega
structure GoodS (l : Lit) (S : LS) : Prop where
 w : S.ws.length = l.wn
 r : S.rs.length = l.tn * 4
 p : S.ps.length = l.tn
 le : ∀ t, t < l.tn -> S.p t <= (codeOf l t).length
theorem okLit_code {l : Lit} (h : okLit l = true) {t : Nat} {y : Hd × List Ins} (hy : l.th[t]? = some y) : y.1.2.1 <= 10 /\ ∀ x ∈ y.2, okIns l.wn x = true := by
 rw [okLit_th] at h
 simp only [Bool.and_eq_true, List.all_eq_true] at h
 have := h.2 y (List.mem_of_getElem? hy)
 simpa [okTh] using this
theorem okLit_num {l : Lit} (h : okLit l = true) : 1 <= l.tn /\ l.tn <= 4 /\ 1 <= l.wn /\ l.wn <= 6 := by
 rw [okLit_th] at h
 simp only [Bool.and_eq_true, decide_eq_true_eq] at h
 obtain ⟨⟨⟨⟨a, b⟩, c⟩, d⟩, _⟩ := h
 exact ⟨a, b, c, d⟩
theorem GoodS.first {l : Lit} (hl : l.ws.length = l.wn) : GoodS l (firstS l) :=
 ⟨hl, List.length_replicate, List.length_replicate, fun t ht => by simp [LS.p, firstS, ht]⟩
theorem effS_len (S : LS) (t : Nat) (x : Ins) : (effS S t x).ws.length = S.ws.length /\ (effS S t x).rs.length = S.rs.length := by
 unfold effS
 repeat' split
 all_goals simp
theorem nextS_good {l : Lit} {S : LS} (h : GoodS l S) (t : Nat) (x : Ins) : GoodS l (nextS S t (codeOf l t).length x) := by
 obtain ⟨e1, e2⟩ := effS_len S t x
 refine ⟨e1.trans h.w, e2.trans h.r, by unfold nextS; rw [List.length_set]; exact h.p, fun i hi => ?_⟩
 by_cases he : i = t
 ·subst he
  simp only [LS.p, nextS, List.getD_eq_getElem?_getD]
  rw [List.getElem?_set_self (by rw [h.p]; exact hi)]
  simp only [Option.getD_some]
  omega
 ·have := h.le i hi
  simp only [LS.p, nextS, List.getD_eq_getElem?_getD] at this ⊢
  rw [List.getElem?_set_ne (Ne.symm he)]
  exact this
theorem turnS_good {l : Lit} {S : LS} (h : GoodS l S) (u : Tn) : GoodS l (turnS l S u) := by
 unfold turnS
 split
 ·exact nextS_good h _ _
 ·exact h
theorem playS_good {l : Lit} (hl : l.ws.length = l.wn) (us : List Tn) : ∀ j, GoodS l (playS l us j)
 | 0 => GoodS.first hl
 | j + 1 => by
  have ih := playS_good hl us j
  cases h : us[j]? with
  | none => rw [playS, h]; exact ih
  | some u => rw [playS_next h]; exact turnS_good ih u
structure TS where
 m : Nat -> Clk
 wd : Nat -> Clk
def TS.zero : TS := ⟨fun _ _ => 0, fun _ _ => 0⟩
def bumpW (f : Clk) (t : Nat) : Clk := fun k => if k = t then IntKind.i64.wrap (f k + 1) else f k
def tickM (x : TS) (e : Ev) : Clk := if e.k = 3 then maxC (bumpW (x.m e.t) e.t) (x.wd e.a) else bumpW (x.m e.t) e.t
def tickS (x : TS) (e : Ev) : TS := ⟨fun i => if i = e.t then tickM x e else x.m i, fun i => if e.k = 3 /\ e.wr = true /\ i = e.a then tickM x e else x.wd i⟩
def tsAt (es : List Ev) : Nat -> TS
 | 0 => TS.zero
 | j + 1 => match es[j]? with | some e => tickS (tsAt es j) e | none => tsAt es j
def ckAt (es : List Ev) (j : Nat) : Clk := match es[j]? with | some e => tickM (tsAt es j) e | none => fun _ => 0
theorem tsAt_next {es : List Ev} {j : Nat} {e : Ev} (h : es[j]? = some e) : tsAt es (j + 1) = tickS (tsAt es j) e := by rw [tsAt, h]
theorem ckAt_at {es : List Ev} {j : Nat} {e : Ev} (h : es[j]? = some e) : ckAt es j = tickM (tsAt es j) e := by rw [ckAt, h]
theorem tsAt_app (es fs : List Ev) : ∀ j, j <= es.length -> tsAt (es ++ fs) j = tsAt es j
 | 0, _ => rfl
 | j + 1, h => by
  obtain ⟨e, he⟩ := at_lt (show j < es.length by omega)
  rw [tsAt_next he, tsAt_next (by rw [List.getElem?_append_left (by omega)]; exact he), tsAt_app es fs j (by omega)]
theorem ckAt_app (es fs : List Ev) (j : Nat) (h : j < es.length) : ckAt (es ++ fs) j = ckAt es j := by
 obtain ⟨e, he⟩ := at_lt h
 rw [ckAt_at he, ckAt_at (es := es ++ fs) (by rw [List.getElem?_append_left (by omega)]; exact he), tsAt_app es fs j (by omega)]
def raceE (es : List Ev) (j : Nat) (b : Ev) (i : Nat) : Bool := match es[i]? with
 | some a => decide (a.a = b.a) && (!decide (a.t = b.t) && ((a.wr || b.wr) && (!(decide (a.k = 3) && decide (b.k = 3)) && decide (ckAt es j a.t < ckAt es i a.t))))
 | none => false
theorem raceE_at {es : List Ev} {j i : Nat} {a b : Ev} (h : es[i]? = some a) : raceE es j b i = (decide (a.a = b.a) && (!decide (a.t = b.t) && ((a.wr || b.wr) && (!(decide (a.k = 3) && decide (b.k = 3)) && decide (ckAt es j a.t < ckAt es i a.t))))) := by rw [raceE, h]
abbrev Rk := Nat × Nat × Int
def rkVals (l : List Rk) : List Value := l.flatMap fun r => [.int .i64 r.1, .int .i64 r.2.1, .int .i64 r.2.2]
theorem rkVals_snoc (l : List Rk) (r : Rk) : rkVals (l ++ [r]) = rkVals l ++ [.int .i64 r.1, .int .i64 r.2.1, .int .i64 r.2.2] := by simp [rkVals]
theorem rk_one (i j a : Int) : ∀ u ∈ [Value.int .i64 i, .int .i64 j, .int .i64 a], u.oneCell' = true := by intro u hu; simp at hu; rcases hu with rfl | rfl | rfl <;> rfl
def rcsE (es : List Ev) : Nat -> List Rk
 | 0 => []
 | j + 1 => rcsE es j ++ (match es[j]? with | some b => (match (List.range j).find? (raceE es j b) with | some i => [(i, j, (b.a : Int))] | none => []) | none => [])
theorem rcsE_one {es : List Ev} {j i : Nat} {b : Ev} (h : es[j]? = some b) (hf : (List.range j).find? (raceE es j b) = some i) : rcsE es (j + 1) = rcsE es j ++ [(i, j, (b.a : Int))] := by rw [rcsE, h]; simp only [hf]
theorem rcsE_none {es : List Ev} {j : Nat} {b : Ev} (h : es[j]? = some b) (hf : (List.range j).find? (raceE es j b) = none) : rcsE es (j + 1) = rcsE es j := by rw [rcsE, h]; simp only [hf, List.append_nil]
theorem rcsE_len (es : List Ev) : ∀ j, (rcsE es j).length <= j
 | 0 => Nat.le_refl _
 | j + 1 => by
  have ih := rcsE_len es j
  rw [rcsE, List.length_append]
  have : ∀ o : List Rk, o.length <= 1 -> (rcsE es j).length + o.length <= j + 1 := fun o h => by omega
  apply this
  split
  ·split <;> simp
  ·simp
end Go.Proofs.YtgjdgapfnfhklaaGreat
namespace Go.Proofs.YtgjdgapfnfhklaaGreat
open Go.RowKit
def lessL : List Int -> List Int -> Bool
 | [], [] => false
 | [], _ :: _ => true
 | _ :: _, [] => false
 | a :: u, b :: v => if a = b then lessL u v else decide (a < b)
theorem lessL_self : ∀ a, lessL a a = false
 | [] => rfl
 | a :: u => by rw [lessL, if_pos rfl]; exact lessL_self u
theorem lessL_tri : ∀ a b, lessL a b = false -> lessL b a = false -> a = b
 | [], [], _, _ => rfl
 | [], _ :: _, h, _ => by simp [lessL] at h
 | _ :: _, [], _, h => by simp [lessL] at h
 | a :: u, b :: v, h1, h2 => by
  rw [lessL] at h1 h2
  by_cases hab : a = b
  ·subst hab
   rw [if_pos rfl] at h1 h2
   rw [lessL_tri u v h1 h2]
  ·rw [if_neg hab] at h1
   rw [if_neg (Ne.symm hab)] at h2
   simp at h1 h2
   omega
theorem lessL_same {a b : List Int} {i : Nat} {x : Int} (ha : a[i]? = some x) (hb : b[i]? = some x) : lessL (a.drop i) (b.drop i) = lessL (a.drop (i + 1)) (b.drop (i + 1)) := by
 obtain ⟨h1, e1⟩ := List.getElem?_eq_some_iff.1 ha
 obtain ⟨h2, e2⟩ := List.getElem?_eq_some_iff.1 hb
 rw [List.drop_eq_getElem_cons h1, List.drop_eq_getElem_cons h2, lessL, e1, e2, if_pos rfl]
theorem lessL_diff {a b : List Int} {i : Nat} {x y : Int} (ha : a[i]? = some x) (hb : b[i]? = some y) (h : x ≠ y) : lessL (a.drop i) (b.drop i) = decide (x < y) := by
 obtain ⟨h1, e1⟩ := List.getElem?_eq_some_iff.1 ha
 obtain ⟨h2, e2⟩ := List.getElem?_eq_some_iff.1 hb
 rw [List.drop_eq_getElem_cons h1, List.drop_eq_getElem_cons h2, lessL, e1, e2, if_neg h]
theorem lessL_end {a b : List Int} {i : Nat} (h : a.length <= i ∨ b.length <= i) (h2 : i <= a.length) (h3 : i <= b.length) : lessL (a.drop i) (b.drop i) = decide (a.length < b.length) := by
 by_cases ha : a.length <= i
 ·rw [List.drop_eq_nil_of_le ha]
  by_cases hb : b.length <= i
  ·rw [List.drop_eq_nil_of_le hb]
   simp [lessL]
   omega
  ·rw [List.drop_eq_getElem_cons (by omega)]
   simp [lessL]
   omega
 ·rw [List.drop_eq_nil_of_le (show b.length <= i by omega), List.drop_eq_getElem_cons (show i < a.length by omega)]
  simp [lessL]
  omega
structure Tr where
 ks : List (List Int)
 L : List Int
 R : List Int
def Tr.key (T : Tr) (i : Nat) : List Int := T.ks.getD i []
def Tr.l (T : Tr) (i : Nat) : Int := T.L.getD i (-1)
def Tr.r (T : Tr) (i : Nat) : Int := T.R.getD i (-1)
inductive Rs where
 | hit (i : Nat)
 | miss (a : Nat) (right : Bool)
def srch (T : Tr) (k : List Int) : Nat -> Nat -> Rs
 | 0, i => .hit i
 | f + 1, i =>
  if lessL k (T.key i) = true then (if T.l i < 0 then .miss i false else srch T k f (T.l i).toNat)
  else if lessL (T.key i) k = true then (if T.r i < 0 then .miss i true else srch T k f (T.r i).toNat)
  else .hit i
structure TrB (T : Tr) : Prop where
 l : T.L.length = T.ks.length
 r : T.R.length = T.ks.length
 bl : ∀ i, i < T.ks.length -> T.l i = -1 ∨ (i : Int) < T.l i /\ T.l i < T.ks.length
 br : ∀ i, i < T.ks.length -> T.r i = -1 ∨ (i : Int) < T.r i /\ T.r i < T.ks.length
structure TrW (T : Tr) : Prop where
 b : TrB T
 found : ∀ j, j < T.ks.length -> srch T (T.key j) T.ks.length 0 = .hit j
def Tr.nil : Tr := ⟨[], [], []⟩
theorem TrW.nil : TrW Tr.nil := ⟨⟨rfl, rfl, fun i h => (by simp [Tr.nil] at h), fun i h => (by simp [Tr.nil] at h)⟩, fun i h => (by simp [Tr.nil] at h)⟩
section
variable {T : Tr} {k : List Int}
theorem srch_left {f i : Nat} (h : lessL k (T.key i) = true) (hl : ¬ T.l i < 0) : srch T k (f + 1) i = srch T k f (T.l i).toNat := by rw [srch, if_pos h, if_neg hl]
theorem srch_left0 {f i : Nat} (h : lessL k (T.key i) = true) (hl : T.l i < 0) : srch T k (f + 1) i = .miss i false := by rw [srch, if_pos h, if_pos hl]
theorem srch_right {f i : Nat} (h0 : lessL k (T.key i) = false) (h : lessL (T.key i) k = true) (hl : ¬ T.r i < 0) : srch T k (f + 1) i = srch T k f (T.r i).toNat := by rw [srch, if_neg (by simp [h0]), if_pos h, if_neg hl]
theorem srch_right0 {f i : Nat} (h0 : lessL k (T.key i) = false) (h : lessL (T.key i) k = true) (hl : T.r i < 0) : srch T k (f + 1) i = .miss i true := by rw [srch, if_neg (by simp [h0]), if_pos h, if_pos hl]
theorem srch_hit {f i : Nat} (h0 : lessL k (T.key i) = false) (h : lessL (T.key i) k = false) : srch T k (f + 1) i = .hit i := by rw [srch, if_neg (by simp [h0]), if_neg (by simp [h])]
theorem srch_ways (b : TrB T) (k : List Int) {i : Nat} (hi : i < T.ks.length) :
  (lessL k (T.key i) = true /\ T.l i = -1) ∨ (lessL k (T.key i) = true /\ ∃ c : Nat, T.l i = c /\ i < c /\ c < T.ks.length) ∨
  (lessL k (T.key i) = false /\ lessL (T.key i) k = true /\ T.r i = -1) ∨ (lessL k (T.key i) = false /\ lessL (T.key i) k = true /\ ∃ c : Nat, T.r i = c /\ i < c /\ c < T.ks.length) ∨
  (lessL k (T.key i) = false /\ lessL (T.key i) k = false) := by
 cases h1 : lessL k (T.key i) with
 | true =>
  rcases b.bl i hi with h | h
  ·exact Or.inl ⟨rfl, h⟩
  ·exact Or.inr (Or.inl ⟨rfl, (T.l i).toNat, by omega, by omega, by omega⟩)
 | false =>
  cases h2 : lessL (T.key i) k with
  | true =>
   rcases b.br i hi with h | h
   ·exact Or.inr (Or.inr (Or.inl ⟨rfl, rfl, h⟩))
   ·exact Or.inr (Or.inr (Or.inr (Or.inl ⟨rfl, rfl, (T.r i).toNat, by omega, by omega, by omega⟩)))
  | false => exact Or.inr (Or.inr (Or.inr (Or.inr ⟨rfl, rfl⟩)))
theorem srch_l {f i c : Nat} (h : lessL k (T.key i) = true) (hl : T.l i = c) : srch T k (f + 1) i = srch T k f c := by rw [srch_left h (by omega), hl]; rfl
theorem srch_r {f i c : Nat} (h0 : lessL k (T.key i) = false) (h : lessL (T.key i) k = true) (hl : T.r i = c) : srch T k (f + 1) i = srch T k f c := by rw [srch_right h0 h (by omega), hl]; rfl
theorem srch_fuel (b : TrB T) (k : List Int) : ∀ f i, i < T.ks.length -> T.ks.length <= f + i -> srch T k (f + 1) i = srch T k f i
 | 0, i, hi, hf => absurd hf (by omega)
 | f + 1, i, hi, hf => by
  rcases srch_ways b k hi with ⟨h1, h2⟩ | ⟨h1, c, h2, h3, h4⟩ | ⟨h0, h1, h2⟩ | ⟨h0, h1, c, h2, h3, h4⟩ | ⟨h0, h1⟩
  ·rw [srch_left0 h1 (by omega), srch_left0 h1 (by omega)]
  ·rw [srch_l h1 h2, srch_l h1 h2]
   exact srch_fuel b k f c h4 (by omega)
  ·rw [srch_right0 h0 h1 (by omega), srch_right0 h0 h1 (by omega)]
  ·rw [srch_r h0 h1 h2, srch_r h0 h1 h2]
   exact srch_fuel b k f c h4 (by omega)
  ·rw [srch_hit h0 h1, srch_hit h0 h1]
theorem srch_up (b : TrB T) (k : List Int) {f i : Nat} (hi : i < T.ks.length) (hf : T.ks.length <= f + i) : ∀ d, srch T k (f + d) i = srch T k f i
 | 0 => rfl
 | d + 1 => by rw [<- Nat.add_assoc, srch_fuel b k (f + d) i hi (by omega)]; exact srch_up b k hi hf d
theorem srch_hit_key (b : TrB T) : ∀ f i j, i < T.ks.length -> T.ks.length <= f + i -> srch T k f i = .hit j -> j < T.ks.length /\ T.key j = k
 | 0, i, j, hi, hf, _ => absurd hf (by omega)
 | f + 1, i, j, hi, hf, h => by
  rcases srch_ways b k hi with ⟨h1, h2⟩ | ⟨h1, c, h2, h3, h4⟩ | ⟨h0, h1, h2⟩ | ⟨h0, h1, c, h2, h3, h4⟩ | ⟨h0, h1⟩
  ·rw [srch_left0 h1 (by omega)] at h; cases h
  ·rw [srch_l h1 h2] at h
   exact srch_hit_key b f c j h4 (by omega) h
  ·rw [srch_right0 h0 h1 (by omega)] at h; cases h
  ·rw [srch_r h0 h1 h2] at h
   exact srch_hit_key b f c j h4 (by omega) h
  ·rw [srch_hit h0 h1] at h
   injection h with h
   subst h
   exact ⟨hi, (lessL_tri _ _ h0 h1).symm⟩
theorem srch_miss_at (b : TrB T) : ∀ f i a r, i < T.ks.length -> T.ks.length <= f + i -> srch T k f i = .miss a r -> a < T.ks.length /\ (r = false -> T.l a = -1) /\ (r = true -> T.r a = -1)
 | 0, i, a, r, hi, hf, _ => absurd hf (by omega)
 | f + 1, i, a, r, hi, hf, h => by
  rcases srch_ways b k hi with ⟨h1, h2⟩ | ⟨h1, c, h2, h3, h4⟩ | ⟨h0, h1, h2⟩ | ⟨h0, h1, c, h2, h3, h4⟩ | ⟨h0, h1⟩
  ·rw [srch_left0 h1 (by omega)] at h
   injection h with h h9
   subst h h9
   exact ⟨hi, fun _ => h2, fun h => (by cases h)⟩
  ·rw [srch_l h1 h2] at h
   exact srch_miss_at b f c a r h4 (by omega) h
  ·rw [srch_right0 h0 h1 (by omega)] at h
   injection h with h h9
   subst h h9
   exact ⟨hi, fun h => (by cases h), fun _ => h2⟩
  ·rw [srch_r h0 h1 h2] at h
   exact srch_miss_at b f c a r h4 (by omega) h
  ·rw [srch_hit h0 h1] at h; cases h
end
def Tr.hang (T : Tr) (k : List Int) (a : Nat) (r : Bool) : Tr := ⟨T.ks ++ [k], (if r then T.L else T.L.set a (T.ks.length : Int)) ++ [-1], (if r then T.R.set a (T.ks.length : Int) else T.R) ++ [-1]⟩
def putT (T : Tr) (k : List Int) : Tr × Nat × Bool :=
 if T.ks.length = 0 then (⟨[k], [-1], [-1]⟩, 0, true)
 else match srch T k T.ks.length 0 with
  | .hit i => (T, i, false)
  | .miss a r => (T.hang k a r, T.ks.length, true)
section
variable {T : Tr} {k : List Int} {a : Nat} {r : Bool}
theorem hang_key {i : Nat} (hi : i < T.ks.length) : (T.hang k a r).key i = T.key i := by
 unfold Tr.hang Tr.key
 simp [List.getD_eq_getElem?_getD, List.getElem?_append_left hi]
theorem hang_key_n : (T.hang k a r).key T.ks.length = k := by
 unfold Tr.hang Tr.key
 simp [List.getD_eq_getElem?_getD]
theorem hang_l (b : TrB T) (ha : a < T.ks.length) {i : Nat} (hi : i < T.ks.length) : (T.hang k a r).l i = if r = false /\ i = a then (T.ks.length : Int) else T.l i := by
 have hl := b.l
 unfold Tr.hang Tr.l
 cases r with
 | true => simp [List.getD_eq_getElem?_getD, List.getElem?_append_left (show i < T.L.length by omega)]
 | false =>
  simp only [Bool.false_eq_true, if_false, true_and, List.getD_eq_getElem?_getD]
  rw [List.getElem?_append_left (by rw [List.length_set]; omega), List.getElem?_set]
  by_cases h : i = a
  ·subst h; simp [show i < T.L.length by omega]
  ·rw [if_neg (Ne.symm h), if_neg h]
theorem hang_r (b : TrB T) (ha : a < T.ks.length) {i : Nat} (hi : i < T.ks.length) : (T.hang k a r).r i = if r = true /\ i = a then (T.ks.length : Int) else T.r i := by
 have hl := b.r
 unfold Tr.hang Tr.r
 cases r with
 | false => simp [List.getD_eq_getElem?_getD, List.getElem?_append_left (show i < T.R.length by omega)]
 | true =>
  simp only [if_true, true_and, List.getD_eq_getElem?_getD]
  rw [List.getElem?_append_left (by rw [List.length_set]; omega), List.getElem?_set]
  by_cases h : i = a
  ·subst h; simp [show i < T.R.length by omega]
  ·rw [if_neg (Ne.symm h), if_neg h]
theorem hang_len : (T.hang k a r).ks.length = T.ks.length + 1 := by simp [Tr.hang]
theorem hang_B (b : TrB T) (ha : a < T.ks.length) : TrB (T.hang k a r) := by
 have h1 := b.l
 have h2 := b.r
 refine ⟨?_, ?_, ?_, ?_⟩
 ·rw [hang_len]; unfold Tr.hang; cases r <;> simp [h1]
 ·rw [hang_len]; unfold Tr.hang; cases r <;> simp [h2]
 ·intro i hi
  rw [hang_len] at hi ⊢
  by_cases hn : i < T.ks.length
  ·rw [hang_l b ha hn]
   have := b.bl i hn
   split <;> omega
  ·have hin : i = T.ks.length := by omega
   left
   subst hin
   unfold Tr.hang Tr.l
   cases r <;> simp [List.getD_eq_getElem?_getD, h1, List.getElem?_append_right]
 ·intro i hi
  rw [hang_len] at hi ⊢
  by_cases hn : i < T.ks.length
  ·rw [hang_r b ha hn]
   have := b.br i hn
   split <;> omega
  ·have hin : i = T.ks.length := by omega
   left
   subst hin
   unfold Tr.hang Tr.r
   cases r <;> simp [List.getD_eq_getElem?_getD, h2, List.getElem?_append_right]
theorem hang_old (b : TrB T) (ha : a < T.ks.length) (hl : r = false -> T.l a = -1) (hr : r = true -> T.r a = -1) {q : List Int} {j : Nat} : ∀ f i, i < T.ks.length -> T.ks.length <= f + i -> srch T q f i = .hit j -> srch (T.hang k a r) q (f + 1) i = .hit j
 | 0, i, hi, hf, _ => absurd hf (by omega)
 | f + 1, i, hi, hf, h => by
  have hk := hang_key (k := k) (a := a) (r := r) hi
  rcases srch_ways b q hi with ⟨h1, h2⟩ | ⟨h1, c, h2, h3, h4⟩ | ⟨h0, h1, h2⟩ | ⟨h0, h1, c, h2, h3, h4⟩ | ⟨h0, h1⟩
  ·rw [srch_left0 h1 (by omega)] at h; cases h
  ·rw [srch_l h1 h2] at h
   have hc : (T.hang k a r).l i = c := by
    rw [hang_l b ha hi, if_neg, h2]
    rintro ⟨e1, e2⟩
    subst e2
    have := hl e1
    omega
   rw [srch_l (by rw [hk]; exact h1) hc]
   exact hang_old b ha hl hr f c h4 (by omega) h
  ·rw [srch_right0 h0 h1 (by omega)] at h; cases h
  ·rw [srch_r h0 h1 h2] at h
   have hc : (T.hang k a r).r i = c := by
    rw [hang_r b ha hi, if_neg, h2]
    rintro ⟨e1, e2⟩
    subst e2
    have := hr e1
    omega
   rw [srch_r (by rw [hk]; exact h0) (by rw [hk]; exact h1) hc]
   exact hang_old b ha hl hr f c h4 (by omega) h
  ·rw [srch_hit h0 h1] at h
   rw [srch_hit (by rw [hk]; exact h0) (by rw [hk]; exact h1)]
   exact h
theorem hang_new (b : TrB T) (ha : a < T.ks.length) (hl : r = false -> T.l a = -1) (hr : r = true -> T.r a = -1) : ∀ f i, i < T.ks.length -> T.ks.length <= f + i -> srch T k f i = .miss a r -> srch (T.hang k a r) k (f + 1) i = .hit T.ks.length
 | 0, i, hi, hf, _ => absurd hf (by omega)
 | f + 1, i, hi, hf, h => by
  have hk := hang_key (k := k) (a := a) (r := r) hi
  have hn : srch (T.hang k a r) k (f + 1) T.ks.length = .hit T.ks.length := srch_hit (by rw [hang_key_n]; exact lessL_self k) (by rw [hang_key_n]; exact lessL_self k)
  rcases srch_ways b k hi with ⟨h1, h2⟩ | ⟨h1, c, h2, h3, h4⟩ | ⟨h0, h1, h2⟩ | ⟨h0, h1, c, h2, h3, h4⟩ | ⟨h0, h1⟩
  ·rw [srch_left0 h1 (by omega)] at h
   injection h with e1 e2
   subst e1
   have hc : (T.hang k i r).l i = (T.ks.length : Nat) := by rw [hang_l b ha hi, if_pos ⟨e2.symm, rfl⟩]
   rw [srch_l (by rw [hk]; exact h1) hc]
   exact hn
  ·rw [srch_l h1 h2] at h
   have hc : (T.hang k a r).l i = c := by
    rw [hang_l b ha hi, if_neg, h2]
    rintro ⟨e1, e2⟩
    subst e2
    have := hl e1
    omega
   rw [srch_l (by rw [hk]; exact h1) hc]
   exact hang_new b ha hl hr f c h4 (by omega) h
  ·rw [srch_right0 h0 h1 (by omega)] at h
   injection h with e1 e2
   subst e1
   have hc : (T.hang k i r).r i = (T.ks.length : Nat) := by rw [hang_r b ha hi, if_pos ⟨e2.symm, rfl⟩]
   rw [srch_r (by rw [hk]; exact h0) (by rw [hk]; exact h1) hc]
   exact hn
  ·rw [srch_r h0 h1 h2] at h
   have hc : (T.hang k a r).r i = c := by
    rw [hang_r b ha hi, if_neg, h2]
    rintro ⟨e1, e2⟩
    subst e2
    have := hr e1
    omega
   rw [srch_r (by rw [hk]; exact h0) (by rw [hk]; exact h1) hc]
   exact hang_new b ha hl hr f c h4 (by omega) h
  ·rw [srch_hit h0 h1] at h; cases h
theorem hang_W (h : TrW T) (hn : 0 < T.ks.length) (hm : srch T k T.ks.length 0 = .miss a r) : TrW (T.hang k a r) := by
 obtain ⟨ha, hl, hr⟩ := srch_miss_at h.b _ _ _ _ hn (by omega) hm
 refine ⟨hang_B h.b ha, fun j hj => ?_⟩
 rw [hang_len] at hj ⊢
 by_cases hjn : j < T.ks.length
 ·rw [hang_key hjn]
  exact hang_old h.b ha hl hr _ _ hn (by omega) (h.found j hjn)
 ·obtain rfl : j = T.ks.length := by omega
  rw [hang_key_n]
  exact hang_new h.b ha hl hr _ _ hn (by omega) hm
theorem key_mem {j : Nat} (h : j < T.ks.length) : T.key j ∈ T.ks := by
 unfold Tr.key
 simp [List.getD_eq_getElem?_getD, h]
theorem srch_contains (h : TrW T) (hn : 0 < T.ks.length) : (∀ i, srch T k T.ks.length 0 = .hit i -> T.ks.contains k = true) /\ (∀ a r, srch T k T.ks.length 0 = .miss a r -> T.ks.contains k = false) := by
 constructor
 ·intro i hi
  obtain ⟨h1, h2⟩ := srch_hit_key h.b _ _ _ hn (by omega) hi
  rw [List.contains_iff_mem, <- h2]
  exact key_mem h1
 ·intro a r hm
  cases hc : T.ks.contains k with
  | false => rfl
  | true =>
   rw [List.contains_iff_mem] at hc
   obtain ⟨j, hj, e⟩ := List.mem_iff_getElem.1 hc
   have hk : T.key j = k := by unfold Tr.key; simp [List.getD_eq_getElem?_getD, hj, e]
   have := h.found j hj
   rw [hk, hm] at this
   cases this
end
theorem TrW.one (k : List Int) : TrW ⟨[k], [-1], [-1]⟩ := by
 refine ⟨⟨rfl, rfl, fun i hi => Or.inl ?_, fun i hi => Or.inl ?_⟩, fun j hj => ?_⟩
 ·have : i = 0 := by simpa using hi
  subst this; rfl
 ·have : i = 0 := by simpa using hi
  subst this; rfl
 ·have : j = 0 := by simpa using hj
  subst this
  exact srch_hit (lessL_self _) (lessL_self _)
end Go.Proofs.YtgjdgapfnfhklaaGreat
