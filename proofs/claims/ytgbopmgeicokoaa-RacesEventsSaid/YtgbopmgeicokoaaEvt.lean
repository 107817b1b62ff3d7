/-
  Turns of a litmus program under sequential consistency, their events, clocks and races: plain data.
-/
import Derived.Test.YtgbopmgeicokoaaRw
import Derived.Test.YtgbopmgeicokoaaTck
import Derived.Test.YtgbopmgeicokoaaAcc
namespace Go.Proofs.Ytgbopmgeicokoaa
open Go.RowKit

structure Tn where
  t : Int
  out : Bool
  a : Int
abbrev tnL (u : Tn) : List Value := [.int .i64 u.t, .bool u.out, .int .i64 u.a]
abbrev tnV (u : Tn) : Value := .agg #[.int .i64 u.t, .bool u.out, .int .i64 u.a]
def tnVals (l : List Tn) : List Value := l.flatMap tnL
structure Ev where
  t : Nat
  k : Int
  a : Nat
  wr : Bool
abbrev evL (e : Ev) : List Value := [.int .i64 e.t, .int .i64 e.k, .int .i64 e.a, .bool e.wr]
abbrev evV (e : Ev) : Value := .agg #[.int .i64 e.t, .int .i64 e.k, .int .i64 e.a, .bool e.wr]
def evVals (l : List Ev) : List Value := l.flatMap evL
theorem flat_len {α : Type} (f : α → List Value) (q : Nat) (h : ∀ x, (f x).length = q) (l : List α) : (l.flatMap f).length = l.length * q := by
  induction l with
  | nil => simp
  | cons a l ih => rw [List.flatMap_cons, List.length_append, ih, h, List.length_cons, Nat.add_mul]; omega
theorem flat_get {α : Type} (f : α → List Value) (q : Nat) (h : ∀ x, (f x).length = q) {l : List α} : ∀ {j : Nat} {x : α}, l[j]? = some x → ∀ i, i < q → (l.flatMap f)[j * q + i]? = (f x)[i]? := by
  induction l with
  | nil => intro j x h; simp at h
  | cons a l ih =>
    intro j x hx i hi
    rw [List.flatMap_cons]
    cases j with
    | zero =>
      simp at hx
      subst hx
      rw [Nat.zero_mul, Nat.zero_add, List.getElem?_append_left (by rw [h]; exact hi)]
    | succ j =>
      rw [List.getElem?_append_right (by rw [h, Nat.add_mul]; omega), ← ih (j := j) (by simpa using hx) i hi]
      congr 1
      rw [h, Nat.add_mul]
      omega
theorem tnVals_len (l : List Tn) : (tnVals l).length = l.length * 3 := flat_len _ 3 (fun _ => rfl) l
theorem evVals_len (l : List Ev) : (evVals l).length = l.length * 4 := flat_len _ 4 (fun _ => rfl) l
theorem tnVals_get {l : List Tn} {j : Nat} {x : Tn} (h : l[j]? = some x) (i : Nat) (hi : i < 3) : (tnVals l)[j * 3 + i]? = (tnL x)[i]? := flat_get _ 3 (fun _ => rfl) h i hi
theorem evVals_get {l : List Ev} {j : Nat} {x : Ev} (h : l[j]? = some x) (i : Nat) (hi : i < 4) : (evVals l)[j * 4 + i]? = (evL x)[i]? := flat_get _ 4 (fun _ => rfl) h i hi
theorem evVals_snoc (l : List Ev) (e : Ev) : evVals (l ++ [e]) = evVals l ++ evL e := by simp [evVals]
theorem evL_one (e : Ev) : ∀ u ∈ evL e, u.oneCell' = true := by intro u hu; simp at hu; rcases hu with rfl | rfl | rfl | rfl <;> rfl

/-- word, register and place of a state -/
def LS.w (S : LS) (a : Nat) : Int := S.ws.getD a 0
def LS.r (S : LS) (t q : Nat) : Int := S.rs.getD (t * 4 + q) 0
def LS.p (S : LS) (t : Nat) : Nat := S.ps.getD t 0
theorem LS.w_at {S : LS} {a : Nat} (h : a < S.ws.length) : S.ws[a]? = some (S.w a) := by unfold LS.w; simp [h]
theorem LS.r_at {S : LS} {t q : Nat} (h : t * 4 + q < S.rs.length) : S.rs[t * 4 + q]? = some (S.r t q) := by unfold LS.r; simp [h]
theorem LS.p_at {S : LS} {t : Nat} (h : t < S.ps.length) : S.ps[t]? = some (S.p t) := by unfold LS.p; simp [h]
/-- what an instruction does to words and registers -/
def effS (S : LS) (t : Nat) (x : Ins) : LS :=
  if x.kind = 1 then ⟨S.ws, S.rs.set (t * 4 + x.reg.toNat) (S.w x.addr.toNat), S.ps⟩
  else if x.kind = 2 then ⟨S.ws.set x.addr.toNat (if 0 ≤ x.src then S.r t x.src.toNat else x.value), S.rs, S.ps⟩
  else if x.kind = 3 then (if S.w x.addr.toNat = x.old then ⟨S.ws.set x.addr.toNat x.value, S.rs.set (t * 4 + x.reg.toNat) 1, S.ps⟩ else ⟨S.ws, S.rs.set (t * 4 + x.reg.toNat) 0, S.ps⟩)
  else if x.kind = 5 then ⟨S.ws, S.rs.set (t * 4 + x.reg.toNat) x.value, S.ps⟩
  else if x.kind = 6 then ⟨S.ws, S.rs.set (t * 4 + x.reg.toNat) (IntKind.i64.wrap (S.r t x.reg.toNat + x.value)), S.ps⟩
  else S
def skipS (S : LS) (t : Nat) (x : Ins) : Nat := if x.kind = 7 ∧ S.r t x.reg.toNat = x.value then x.count.toNat else 0
/-- the state behind an instruction of a thread whose code has c of them -/
def nextS (S : LS) (t c : Nat) (x : Ins) : LS := ⟨(effS S t x).ws, (effS S t x).rs, S.ps.set t (min (S.p t + skipS S t x + 1) c)⟩
def codeOf (l : Lit) (t : Nat) : List Ins := match l.th[t]? with | some x => x.2 | none => []
/-- the instruction that a turn makes -/
def pickS (l : Lit) (S : LS) (u : Tn) : Option Ins := if 0 ≤ u.t ∧ u.t < l.tn ∧ u.out = false then (codeOf l u.t.toNat)[S.p u.t.toNat]? else none
def turnS (l : Lit) (S : LS) (u : Tn) : LS := match pickS l S u with | some x => nextS S u.t.toNat (codeOf l u.t.toNat).length x | none => S
/-- the event that an instruction makes, by the state behind it -/
def eventS (S' : LS) (t : Nat) (x : Ins) : Option Ev :=
  if x.kind = 1 then some ⟨t, 1, x.addr.toNat, false⟩
  else if x.kind = 2 then some ⟨t, 2, x.addr.toNat, true⟩
  else if x.kind = 3 then some ⟨t, 3, x.addr.toNat, decide (S'.r t x.reg.toNat = 1)⟩
  else none
def evOf (l : Lit) (S : LS) (u : Tn) : Option Ev := match pickS l S u with | some x => eventS (turnS l S u) u.t.toNat x | none => none
def firstS (l : Lit) : LS := ⟨l.ws, List.replicate (l.tn * 4) 0, List.replicate l.tn 0⟩
/-- the state behind the first turns, and their events -/
def playS (l : Lit) (us : List Tn) : Nat → LS
  | 0 => firstS l
  | j + 1 => match us[j]? with | some u => turnS l (playS l us j) u | none => playS l us j
def playE (l : Lit) (us : List Tn) : Nat → List Ev
  | 0 => []
  | j + 1 => match us[j]? with | some u => (match evOf l (playS l us j) u with | some e => playE l us j ++ [e] | none => playE l us j) | none => playE l us j
theorem playS_next {l : Lit} {us : List Tn} {j : Nat} {u : Tn} (h : us[j]? = some u) : playS l us (j + 1) = turnS l (playS l us j) u := by rw [playS, h]
theorem playE_some {l : Lit} {us : List Tn} {j : Nat} {u : Tn} {e : Ev} (h : us[j]? = some u) (he : evOf l (playS l us j) u = some e) : playE l us (j + 1) = playE l us j ++ [e] := by rw [playE, h]; simp only [he]
theorem playE_none {l : Lit} {us : List Tn} {j : Nat} {u : Tn} (h : us[j]? = some u) (he : evOf l (playS l us j) u = none) : playE l us (j + 1) = playE l us j := by rw [playE, h]; simp only [he]
theorem playE_len (l : Lit) (us : List Tn) : ∀ j, (playE l us j).length ≤ j
  | 0 => Nat.le_refl _
  | j + 1 => by
    have ih := playE_len l us j
    cases h : us[j]? with
    | none => rw [playE, h]; exact Nat.le_succ_of_le ih
    | some u =>
      cases he : evOf l (playS l us j) u with
      | none => rw [playE_none h he]; omega
      | some e => rw [playE_some h he, List.length_append]; simp; omega
/-- what holds of every state that is come to -/
structure GoodS (l : Lit) (S : LS) : Prop where
  w : S.ws.length = l.wn
  r : S.rs.length = l.tn * 4
  p : S.ps.length = l.tn
  le : ∀ t, t < l.tn → S.p t ≤ (codeOf l t).length
theorem okLit_code {l : Lit} (h : okLit l = true) {t : Nat} {y : Hd × List Ins} (hy : l.th[t]? = some y) : y.1.2.1 ≤ 10 ∧ ∀ x ∈ y.2, okIns l.wn x = true := by
  rw [okLit_th] at h
  simp only [Bool.and_eq_true, List.all_eq_true] at h
  have := h.2 y (List.mem_of_getElem? hy)
  simpa [okTh] using this
theorem okLit_num {l : Lit} (h : okLit l = true) : 1 ≤ l.tn ∧ l.tn ≤ 4 ∧ 1 ≤ l.wn ∧ l.wn ≤ 6 := by
  rw [okLit_th] at h
  simp only [Bool.and_eq_true, decide_eq_true_eq] at h
  obtain ⟨⟨⟨⟨a, b⟩, c⟩, d⟩, _⟩ := h
  exact ⟨a, b, c, d⟩
theorem GoodS.first {l : Lit} (hl : l.ws.length = l.wn) : GoodS l (firstS l) :=
  ⟨hl, List.length_replicate, List.length_replicate, fun t ht => by simp [LS.p, firstS, ht]⟩
theorem effS_len (S : LS) (t : Nat) (x : Ins) : (effS S t x).ws.length = S.ws.length ∧ (effS S t x).rs.length = S.rs.length := by
  unfold effS
  repeat' split
  all_goals simp
theorem nextS_good {l : Lit} {S : LS} (h : GoodS l S) (t : Nat) (x : Ins) : GoodS l (nextS S t (codeOf l t).length x) := by
  obtain ⟨e1, e2⟩ := effS_len S t x
  refine ⟨e1.trans h.w, e2.trans h.r, by unfold nextS; rw [List.length_set]; exact h.p, fun i hi => ?_⟩
  by_cases he : i = t
  · subst he
    simp only [LS.p, nextS, List.getD_eq_getElem?_getD]
    rw [List.getElem?_set_self (by rw [h.p]; exact hi)]
    simp only [Option.getD_some]
    omega
  · have := h.le i hi
    simp only [LS.p, nextS, List.getD_eq_getElem?_getD] at this ⊢
    rw [List.getElem?_set_ne (Ne.symm he)]
    exact this
theorem turnS_good {l : Lit} {S : LS} (h : GoodS l S) (u : Tn) : GoodS l (turnS l S u) := by
  unfold turnS
  split
  · exact nextS_good h _ _
  · exact h
theorem playS_good {l : Lit} (hl : l.ws.length = l.wn) (us : List Tn) : ∀ j, GoodS l (playS l us j)
  | 0 => GoodS.first hl
  | j + 1 => by
    have ih := playS_good hl us j
    cases h : us[j]? with
    | none => rw [playS, h]; exact ih
    | some u => rw [playS_next h]; exact turnS_good ih u

/-- the clocks of a litmus run's threads and words -/
structure TS where
  m : Nat → Clk
  wd : Nat → Clk
def TS.zero : TS := ⟨fun _ _ => 0, fun _ _ => 0⟩
def bumpW (f : Clk) (t : Nat) : Clk := fun k => if k = t then IntKind.i64.wrap (f k + 1) else f k
def tickM (x : TS) (e : Ev) : Clk := if e.k = 3 then maxC (bumpW (x.m e.t) e.t) (x.wd e.a) else bumpW (x.m e.t) e.t
def tickS (x : TS) (e : Ev) : TS := ⟨fun i => if i = e.t then tickM x e else x.m i, fun i => if e.k = 3 ∧ e.wr = true ∧ i = e.a then tickM x e else x.wd i⟩
def tsAt (es : List Ev) : Nat → TS
  | 0 => TS.zero
  | j + 1 => match es[j]? with | some e => tickS (tsAt es j) e | none => tsAt es j
def ckAt (es : List Ev) (j : Nat) : Clk := match es[j]? with | some e => tickM (tsAt es j) e | none => fun _ => 0
theorem tsAt_next {es : List Ev} {j : Nat} {e : Ev} (h : es[j]? = some e) : tsAt es (j + 1) = tickS (tsAt es j) e := by rw [tsAt, h]
theorem ckAt_at {es : List Ev} {j : Nat} {e : Ev} (h : es[j]? = some e) : ckAt es j = tickM (tsAt es j) e := by rw [ckAt, h]
theorem tsAt_app (es fs : List Ev) : ∀ j, j ≤ es.length → tsAt (es ++ fs) j = tsAt es j
  | 0, _ => rfl
  | j + 1, h => by
    obtain ⟨e, he⟩ := at_lt (show j < es.length by omega)
    rw [tsAt_next he, tsAt_next (by rw [List.getElem?_append_left (by omega)]; exact he), tsAt_app es fs j (by omega)]
theorem ckAt_app (es fs : List Ev) (j : Nat) (h : j < es.length) : ckAt (es ++ fs) j = ckAt es j := by
  obtain ⟨e, he⟩ := at_lt h
  rw [ckAt_at he, ckAt_at (es := es ++ fs) (by rw [List.getElem?_append_left (by omega)]; exact he), tsAt_app es fs j (by omega)]
/-- is an event i, ahead of the event b at j in the list, in a race with it -/
def raceE (es : List Ev) (j : Nat) (b : Ev) (i : Nat) : Bool := match es[i]? with
  | some a => decide (a.a = b.a) && (!decide (a.t = b.t) && ((a.wr || b.wr) && (!(decide (a.k = 3) && decide (b.k = 3)) && decide (ckAt es j a.t < ckAt es i a.t))))
  | none => false
theorem raceE_at {es : List Ev} {j i : Nat} {a b : Ev} (h : es[i]? = some a) : raceE es j b i = (decide (a.a = b.a) && (!decide (a.t = b.t) && ((a.wr || b.wr) && (!(decide (a.k = 3) && decide (b.k = 3)) && decide (ckAt es j a.t < ckAt es i a.t))))) := by rw [raceE, h]
abbrev Rk := Nat × Nat × Int
def rkVals (l : List Rk) : List Value := l.flatMap fun r => [.int .i64 r.1, .int .i64 r.2.1, .int .i64 r.2.2]
theorem rkVals_len (l : List Rk) : (rkVals l).length = l.length * 3 := flat_len _ 3 (fun _ => rfl) l
theorem rkVals_get {l : List Rk} {j : Nat} {x : Rk} (h : l[j]? = some x) (i : Nat) (hi : i < 3) : (rkVals l)[j * 3 + i]? = [Value.int .i64 x.1, .int .i64 x.2.1, .int .i64 x.2.2][i]? := flat_get _ 3 (fun _ => rfl) h i hi
theorem rkVals_snoc (l : List Rk) (r : Rk) : rkVals (l ++ [r]) = rkVals l ++ [.int .i64 r.1, .int .i64 r.2.1, .int .i64 r.2.2] := by simp [rkVals]
theorem rk_one (i j a : Int) : ∀ u ∈ [Value.int .i64 i, .int .i64 j, .int .i64 a], u.oneCell' = true := by intro u hu; simp at hu; rcases hu with rfl | rfl | rfl <;> rfl
def rcsE (es : List Ev) : Nat → List Rk
  | 0 => []
  | j + 1 => rcsE es j ++ (match es[j]? with | some b => (match (List.range j).find? (raceE es j b) with | some i => [(i, j, (b.a : Int))] | none => []) | none => [])
theorem rcsE_one {es : List Ev} {j i : Nat} {b : Ev} (h : es[j]? = some b) (hf : (List.range j).find? (raceE es j b) = some i) : rcsE es (j + 1) = rcsE es j ++ [(i, j, (b.a : Int))] := by rw [rcsE, h]; simp only [hf]
theorem rcsE_none {es : List Ev} {j : Nat} {b : Ev} (h : es[j]? = some b) (hf : (List.range j).find? (raceE es j b) = none) : rcsE es (j + 1) = rcsE es j := by rw [rcsE, h]; simp only [hf, List.append_nil]
theorem rcsE_len (es : List Ev) : ∀ j, (rcsE es j).length ≤ j
  | 0 => Nat.le_refl _
  | j + 1 => by
    have ih := rcsE_len es j
    rw [rcsE, List.length_append]
    have : ∀ o : List Rk, o.length ≤ 1 → (rcsE es j).length + o.length ≤ j + 1 := fun o h => by omega
    apply this
    split
    · split <;> simp
    · simp
end Go.Proofs.Ytgbopmgeicokoaa
