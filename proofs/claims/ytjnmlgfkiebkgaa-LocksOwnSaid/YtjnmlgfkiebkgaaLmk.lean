/-
  The whole machine in memory.
-/
import Derived.Test.YtjnmlgfkiebkgaaLst
import Derived.Maps.Own
import Derived.Maps.OwnOps
namespace Go.Proofs.Ytjnmlgfkiebkgaa
open Go.RowKit
set_option linter.unusedVariables false
set_option linter.unusedSimpArgs false

/-- where a machine's parts lie -/
structure ML where
  x : Nat
  y : Nat
  wb : Nat
  wk : Nat
  sg : Nat
  sk : Nat
  kb : Nat
  vc : Value
  vl : Value
  va : Value
  sv : Nat
  cv : Nat
  lg : Nat
  ls : Nat → Nat
  lb : Nat → Nat
  tb : Nat → Nat
def tkV (M : ML) (i : Nat) : Option Tp → Value
  | none => .nilIface
  | some p => .iface (tkP p) (.pointer (some ⟨M.tb i, 0, none⟩))
abbrev thL (M : ML) (i : Nat) (h : Th) : List Value := [tkV M i h.task, .bool h.ready, .int .i64 h.last, .int .i64 h.ak, .int .i64 h.av]
def thVals (M : ML) : Nat → List Th → List Value
  | _, [] => []
  | i, h :: l => thL M i h ++ thVals M (i + 1) l
theorem thVals_len (M : ML) (l : List Th) (i : Nat) : (thVals M i l).length = l.length * 5 := by
  induction l generalizing i with
  | nil => rfl
  | cons h l ih => simp only [thVals, List.length_append, List.length_cons, List.length_nil, ih]; omega
theorem thVals_get {M : ML} {l : List Th} {t : Nat} {h : Th} (i : Nat) (hh : l[t]? = some h) (j : Nat) (hj : j < 5) : (thVals M i l)[t * 5 + j]? = (thL M (i + t) h)[j]? := by
  induction l generalizing i t with
  | nil => simp at hh
  | cons a l ih =>
    cases t with
    | zero =>
      simp at hh
      subst hh
      rw [thVals, List.getElem?_append_left (by simpa using hj)]
      simp
    | succ t =>
      have := ih (i + 1) (t := t) (by simpa using hh)
      rw [thVals, List.getElem?_append_right (by simp; omega)]
      rw [show (t + 1) * 5 + j - (thL M i a).length = t * 5 + j by simp; omega, this, show i + 1 + t = i + (t + 1) by omega]
theorem set_app (a : List Value) (b : List Value) (n m : Nat) (hn : n = a.length + m) (u : Value) : (a ++ b).set n u = a ++ b.set m u := by
  subst hn
  rw [List.set_append_right _ _ (by omega)]
  congr 2
  omega
theorem thVals_set {M M' : ML} {l : List Th} {t : Nat} {h h' : Th} (i : Nat) (hh : l[t]? = some h) (hM : ∀ j, j ≠ i + t → M'.tb j = M.tb j) :
    thVals M' i (l.set t h') = (((((thVals M i l).set (t * 5) (tkV M' (i + t) h'.task)).set (t * 5 + 1) (.bool h'.ready)).set (t * 5 + 2) (.int .i64 h'.last)).set (t * 5 + 3) (.int .i64 h'.ak)).set (t * 5 + 4) (.int .i64 h'.av) := by
  have same : ∀ (l : List Th) (i j0 : Nat), j0 < i → (∀ j, j ≠ j0 → M'.tb j = M.tb j) → thVals M' i l = thVals M i l := by
    intro l
    induction l with
    | nil => intros; rfl
    | cons a l ih =>
      intro i j0 hj hM
      rw [thVals, thVals, ih (i + 1) j0 (by omega) hM]
      congr 1
      unfold thL tkV
      rw [hM i (by omega)]
  induction l generalizing i t with
  | nil => simp at hh
  | cons a l ih =>
    cases t with
    | zero =>
      rw [List.set_cons_zero, thVals, thVals, same l (i + 1) (i + 0) (by omega) hM]
      rfl
    | succ t =>
      have := ih (i + 1) (t := t) (by simpa using hh) (by rw [show i + 1 + t = i + (t + 1) by omega]; exact hM)
      rw [List.set_cons_succ, thVals, thVals, this, show i + 1 + t = i + (t + 1) by omega]
      have e : thL M' i a = thL M i a := by
        unfold thL tkV
        rw [hM i (by omega)]
      have hl : (thL M i a).length = 5 := rfl
      rw [e, set_app _ _ _ (t * 5) (by omega), set_app _ _ _ (t * 5 + 1) (by omega), set_app _ _ _ (t * 5 + 2) (by omega), set_app _ _ _ (t * 5 + 3) (by omega), set_app _ _ _ (t * 5 + 4) (by omega)]
theorem calVals_len (l : List Cal) : (calVals l).length = l.length * 9 := by
  induction l with
  | nil => rfl
  | cons h l ih => simp only [calVals, List.flatMap_cons, List.length_append, List.length_cons, List.length_nil] at ih ⊢; omega
theorem calVals_get {l : List Cal} {t : Nat} {c : Cal} (hh : l[t]? = some c) (j : Nat) (hj : j < 9) : (calVals l)[t * 9 + j]? = (calL c)[j]? := by
  induction l generalizing t with
  | nil => simp at hh
  | cons a l ih =>
    cases t with
    | zero =>
      simp at hh
      subst hh
      show (calL a ++ calVals l)[_]? = _
      rw [List.getElem?_append_left (by simp; omega)]
      simp
    | succ t =>
      have := ih (t := t) (by simpa using hh)
      show (calL a ++ calVals l)[_]? = _
      rw [List.getElem?_append_right (by simp; omega)]
      rw [show (t + 1) * 9 + j - (calL a).length = t * 9 + j by simp; omega, this]
/-- a call's end, point and answer turn -/
theorem calVals_set {l : List Cal} {t : Nat} {c : Cal} (hh : l[t]? = some c) (fin pt ak av : Int) :
    calVals (l.set t { c with fin := fin, pt := pt, ak := ak, av := av }) = ((((calVals l).set (t * 9 + 5) (.int .i64 fin)).set (t * 9 + 6) (.int .i64 pt)).set (t * 9 + 7) (.int .i64 ak)).set (t * 9 + 8) (.int .i64 av) := by
  induction l generalizing t with
  | nil => simp at hh
  | cons a l ih =>
    cases t with
    | zero =>
      simp at hh
      subst hh
      rfl
    | succ t =>
      have := ih (t := t) (by simpa using hh)
      show calL a ++ calVals (l.set t _) = (((((calL a ++ calVals l).set _ _).set _ _).set _ _).set _ _)
      have hl : (calL a).length = 9 := rfl
      rw [this, set_app _ _ _ (t * 9 + 5) (by omega), set_app _ _ _ (t * 9 + 6) (by omega), set_app _ _ _ (t * 9 + 7) (by omega), set_app _ _ _ (t * 9 + 8) (by omega)]
theorem set_same {l : List Value} {i : Nat} {v : Value} (h : l[i]? = some v) : l.set i v = l := by
  apply List.ext_getElem?
  intro j
  by_cases hj : i = j
  · subst hj
    rw [List.getElem?_set_self (List.getElem?_eq_some_iff.1 h).1, h]
  · rw [List.getElem?_set_ne hj]

/-- the kit: what begins a call, by its op -/
def kitF (cv sv : Nat) (a : Int) : Value :=
  bif a == 120 then .func (.func 44) #[] #[.pointer (some ⟨sv, 0, none⟩)]
  else bif a == 121 then .func (.func 45) #[] #[.pointer (some ⟨sv, 0, none⟩)]
  else bif a == 122 then .func (.func 46) #[] #[.pointer (some ⟨cv, 0, none⟩), .pointer (some ⟨sv, 0, none⟩)]
  else bif a == 123 then .func (.func 47) #[] #[.pointer (some ⟨sv, 0, none⟩)]
  else bif a == 124 then .func (.func 48) #[] #[.pointer (some ⟨sv, 0, none⟩)]
  else .nilFunc
abbrev heldR : Value → Option (DataW Value × List MemPlace) := fun v => some (.held v, [])
def kitD (cv sv : Nat) : DataW Value := .map [(.int .i64 120, .held (kitF cv sv 120)), (.int .i64 121, .held (kitF cv sv 121)), (.int .i64 122, .held (kitF cv sv 122)), (.int .i64 123, .held (kitF cv sv 123)), (.int .i64 124, .held (kitF cv sv 124))]
/-- an object that is the kit's map -/
def KitO (cv sv : Nat) (o : Obj) : Prop := ∃ es clock, o = .map es clock ∧ Go.WideElems.Fit Try.prog 57 heldR es clock ∧ es.size ≤ 5 ∧ kitD cv sv = .map ((es.toList.map (Go.WideElems.rg Try.prog 57 heldR)).foldr DataW.insert [])
theorem KitO.mine {cv sv : Nat} {o : Obj} (h : KitO cv sv o) : mine o = false := by obtain ⟨es, c, rfl, _⟩ := h; rfl
theorem KitO.ne {cv sv : Nat} {o : Obj} (h : KitO cv sv o) {W : World} {k g : Nat} {t : TypeId} {cs : List Value} (hk : W.heap[k]? = some o) (hb : Blk W g t cs) : k ≠ g := by
  obtain ⟨es, c, rfl, _⟩ := h
  rintro rfl
  unfold Blk at hb
  rw [hk] at hb
  cases hb
theorem KitO.neR {cv sv : Nat} {o : Obj} (h : KitO cv sv o) {W : World} {k g sz n c : Nat} {t : TypeId} {cs : List Value} (hk : W.heap[k]? = some o) (hb : Rw W g t sz n c cs) : k ≠ g := by
  obtain ⟨_, x, h1, _⟩ := hb
  exact h.ne hk h1
theorem KitO.neO {cv sv : Nat} {o : Obj} (h : KitO cv sv o) {W : World} {k B' e sz n : Nat} {v : Value} {cs : List Value} (hk : W.heap[k]? = some o) (hb : W.ownsRow B' e sz v n cs) : some k ≠ v.ownBlock := by
  intro hq
  obtain ⟨c, f, e1⟩ := Lib.ownsRow_kind hb k hq.symm
  obtain ⟨es, c, rfl, _⟩ := h
  rw [hk] at e1
  cases e1
theorem law_opk : Go.Maps.Keyed Try.prog 57 := Go.Maps.int_keyed Try.underlying57
theorem kit_at (cv sv : Nat) (a : Int) : (kitD cv sv).atKey (.int .i64 a) (.held .nilFunc) = .held (kitF cv sv a) := by
  by_cases h0 : a = 120
  · subst h0; rfl
  by_cases h1 : a = 121
  · subst h1; rfl
  by_cases h2 : a = 122
  · subst h2; rfl
  by_cases h3 : a = 123
  · subst h3; rfl
  by_cases h4 : a = 124
  · subst h4; rfl
  have e0 : (a == 120) = false := by simpa using h0
  have e1 : (a == 121) = false := by simpa using h1
  have e2 : (a == 122) = false := by simpa using h2
  have e3 : (a == 123) = false := by simpa using h3
  have e4 : (a == 124) = false := by simpa using h4
  have f0 : ((120 : Int) == a) = false := by simpa using fun e => h0 e.symm
  have f1 : ((121 : Int) == a) = false := by simpa using fun e => h1 e.symm
  have f2 : ((122 : Int) == a) = false := by simpa using fun e => h2 e.symm
  have f3 : ((123 : Int) == a) = false := by simpa using fun e => h3 e.symm
  have f4 : ((124 : Int) == a) = false := by simpa using fun e => h4 e.symm
  unfold kitF
  rw [e0, e1, e2, e3, e4]
  have g0 : decide (True ∧ (120 : Int) = a) = false := by simpa using fun e => h0 e.symm
  have g1 : decide (True ∧ (121 : Int) = a) = false := by simpa using fun e => h1 e.symm
  have g2 : decide (True ∧ (122 : Int) = a) = false := by simpa using fun e => h2 e.symm
  have g3 : decide (True ∧ (123 : Int) = a) = false := by simpa using fun e => h3 e.symm
  have g4 : decide (True ∧ (124 : Int) = a) = false := by simpa using fun e => h4 e.symm
  simp only [kitD, DataW.atKey, List.find?, Lit.sameKey, g0, g1, g2, g3, g4, cond_false]
set_option maxRecDepth 100000 in
/-- a maker is looked up -/
theorem kit_look {cv sv kb : Nat} {o : Obj} (h : KitO cv sv o) {W : World} (hk : W.heap[kb]? = some o) (a : Int) (ha : -9223372036854775808 ≤ a ∧ a ≤ 9223372036854775807) :
    (Instr.lookup 118 (.map (some kb)) (.int .i64 a) false).run Try.prog W = .ok (kitF cv sv a) W := by
  obtain ⟨es, c, rfl, hf, hs, hd⟩ := h
  have ho : W.ownsMap Try.prog 57 heldR kb 5 (kitD cv sv) := ⟨es, c, hk, hf, hs, hd⟩
  have hw : (Lit.int .i64 a).wf = true := by
    have : (decide (IntKind.i64.min ≤ a) && decide (a ≤ IntKind.i64.max)) = true := by
      rw [show IntKind.i64.min = -9223372036854775808 from by decide, show IntKind.i64.max = 9223372036854775807 from by decide]
      simp
      exact ha
    exact this
  obtain ⟨v, ps, hr, hv⟩ := ho.lookup law_opk Try.underlying118 (z := .nilFunc) (zd := .held .nilFunc) (zp := []) (by kernel_rfl) rfl (Go.Maps.keyOf_int_mk Try.underlying57 hw)
  rw [hr]
  have hv2 : DataW.held v = (kitD cv sv).atKey (.int .i64 a) (.held .nilFunc) := by
    have := congrArg (fun x : Option (DataW Value × List MemPlace) => x.map Prod.fst) hv
    simpa using this
  have e := kit_at cv sv a
  rw [e] at hv2
  injection hv2 with hv2
  rw [hv2]
structure MM (W : World) (B : Nat) (M : ML) (m : Mc) : Prop where
  xb : ∃ th now us, Blk W M.x 126 [.pointer (some ⟨M.y, 0, none⟩), .int .i64 th, .int .i64 now, .pointer none, .pointer none, .bool us, .slice none 0 0, .map (some M.kb), .slice (some ⟨M.sg, 0, none⟩) m.ths.length M.sk, .int .i64 m.moves, M.vc]
  yb : ∃ now, Blk W M.y 170 [.slice (some ⟨M.wb, 0, none⟩) m.words.length M.wk, M.vl, M.va, .int .i64 now]
  wr : Rw W M.wb 34 1 m.words.length M.wk (u64s m.words)
  lo : W.ownsRow B 66 7 M.vl m.log.length (acVals m.log)
  ah : ∃ n xs, n ≤ m.log.length ∧ W.ownsRow (M.wb + 1) 34 1 M.va n xs
  ca : W.ownsRow B 62 9 M.vc m.calls.length (calVals m.calls)
  se : Rw W M.sg 128 5 m.ths.length M.sk (thVals M 0 m.ths)
  sv : Blk W M.sv 95 [.slice (some ⟨M.lg, 0, none⟩) m.ths.length m.ths.length]
  cv : ∃ a, Blk W M.cv 24 [a, .int .i64 m.kd]
  lr : Blk W M.lg 96 ((List.range m.ths.length).map fun i => .pointer (some ⟨M.ls i, 0, none⟩))
  ts : ∀ (i : Nat) (h : Th), m.ths[i]? = some h → Blk W (M.ls i) 101 (seL (M.lb i) h.lk.kd h.alone h.shares) ∧ LkB W (M.lb i) h.lk ∧ h.lk.kd = m.kd ∧ B ≤ M.ls i ∧ B ≤ M.lb i
  tk : ∀ (i : Nat) (h : Th) (p : Tp), m.ths[i]? = some h → h.task = some p → Blk W (M.tb i) (tkT p) (tkL (M.ls i) p) ∧ B ≤ M.tb i ∧ 0 ≤ h.last ∧ h.last < m.calls.length
  i1 : ∀ (i j : Nat), i < m.ths.length → j < m.ths.length → M.ls i = M.ls j → i = j
  i2 : ∀ (i j : Nat), i < m.ths.length → j < m.ths.length → M.lb i = M.lb j → i = j
  i3 : ∀ (i j : Nat) (h h' : Th) (p p' : Tp), m.ths[i]? = some h → m.ths[j]? = some h' → h.task = some p → h'.task = some p' → M.tb i = M.tb j → i = j
  bx : B ≤ M.x
  by_ : B ≤ M.y
  bw : B ≤ M.wb
  bs : B ≤ M.sg
  nm : m.log.length ≤ m.moves ∧ m.moves ≤ 65536 ∧ m.calls.length ≤ m.moves
  nt : 1 ≤ m.ths.length ∧ m.ths.length ≤ 16
  kit : ∃ o, W.heap[M.kb]? = some o ∧ KitO M.cv M.sv o
end Go.Proofs.Ytjnmlgfkiebkgaa
