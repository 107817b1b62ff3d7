/-
  api.Litmus as plain data, and as it lies in memory; which may be.
-/
import Derived.Test.YtgbopmgeicokoaaMul
import Derived.Test.YtgbopmgeicokoaaWPlain
import Derived.Deep.LoopGhost
import Derived.Deep.Light
import Derived.Lib.Hide
namespace Go.Proofs.Ytgbopmgeicokoaa
open Go.RowKit

structure Ins where
  kind : Int
  reg : Int
  addr : Int
  value : Int
  src : Int
  old : Int
  count : Int
abbrev insL (x : Ins) : List Value := [.int .i64 x.kind, .int .i64 x.reg, .int .i64 x.addr, .int .i64 x.value, .int .i64 x.src, .int .i64 x.old, .int .i64 x.count]
abbrev insV (x : Ins) : Value := .agg #[.int .i64 x.kind, .int .i64 x.reg, .int .i64 x.addr, .int .i64 x.value, .int .i64 x.src, .int .i64 x.old, .int .i64 x.count]
def insVals (l : List Ins) : List Value := l.flatMap insL
abbrev Hd := Option Addr × Nat × Nat
structure Lit where
  wA : Option Addr
  wn : Nat
  wk : Nat
  ws : List Int
  tA : Option Addr
  tn : Nat
  tk : Nat
  th : List (Hd × List Ins)
abbrev litL (l : Lit) : List Value := [.slice l.wA l.wn l.wk, .slice l.tA l.tn l.tk]
abbrev litV (l : Lit) : Value := .agg #[.slice l.wA l.wn l.wk, .slice l.tA l.tn l.tk]
def SrcOk (x : Ins) : Prop := -9223372036854775808 ≤ x.src ∧ x.src ≤ 9223372036854775807
structure LitAt (w : World) (B : Nat) (l : Lit) : Prop where
  ws : Sl w B 1 l.wA l.wn (ints l.ws)
  wk : l.wn ≤ l.wk ∧ l.wk ≤ maxLen
  th : Sl w B 1 l.tA l.tn (l.th.map fun x => hdV x.1)
  tk : l.tn ≤ l.tk ∧ l.tk ≤ maxLen
  code : ∀ x ∈ l.th, Sl w B 7 x.1.1 x.1.2.1 (insVals x.2) ∧ (x.1.2.1 ≤ x.1.2.2 ∧ x.1.2.2 ≤ maxLen) ∧ ∀ i ∈ x.2, SrcOk i
theorem insVals_len (l : List Ins) : (insVals l).length = l.length * 7 := by
  induction l with
  | nil => rfl
  | cons a l ih =>
    show (insL a ++ insVals l).length = _
    rw [List.length_append, ih]
    show 7 + l.length * 7 = (l.length + 1) * 7
    omega
theorem insVals_get {l : List Ins} : ∀ {j : Nat} {x : Ins}, l[j]? = some x → ∀ q, q < 7 → (insVals l)[j * 7 + q]? = (insL x)[q]? := by
  induction l with
  | nil => intro j x h; simp at h
  | cons a l ih =>
    intro j x h q hq
    cases j with
    | zero =>
      simp at h
      subst h
      show (insL a ++ insVals l)[0 * 7 + q]? = _
      rw [List.getElem?_append_left (by show 0 * 7 + q < 7; omega)]
      congr 1
      omega
    | succ j =>
      show (insL a ++ insVals l)[(j + 1) * 7 + q]? = _
      rw [List.getElem?_append_right (by show 7 ≤ (j + 1) * 7 + q; omega), ← ih (j := j) (by simpa using h) q hq]
      congr 1
      show (j + 1) * 7 + q - 7 = _
      omega
theorem LitAt.keep {w w' : World} {B : Nat} {l : Lit} (h : LitAt w B l) (hb : Below B w w') : LitAt w' B l :=
  ⟨h.ws.below hb, h.wk, h.th.below hb, h.tk, fun x hx => ⟨(h.code x hx).1.below hb, (h.code x hx).2⟩⟩
theorem LitAt.up {w : World} {B B' : Nat} {l : Lit} (h : LitAt w B l) (hB : B ≤ B') : LitAt w B' l :=
  ⟨h.ws.up hB, h.wk, h.th.up hB, h.tk, fun x hx => ⟨(h.code x hx).1.up hB, (h.code x hx).2⟩⟩
theorem LitAt.wlen {w : World} {B : Nat} {l : Lit} (h : LitAt w B l) : l.ws.length = l.wn := by have := h.ws.1; rw [ints_len] at this; omega
theorem LitAt.tlen {w : World} {B : Nat} {l : Lit} (h : LitAt w B l) : l.th.length = l.tn := by have := h.th.1; rw [List.length_map] at this; omega
theorem LitAt.clen {w : World} {B : Nat} {l : Lit} (h : LitAt w B l) {x : Hd × List Ins} (hx : x ∈ l.th) : x.2.length = x.1.2.1 := by have := (h.code x hx).1.1; rw [insVals_len] at this; omega
/-- the header of a thread's code -/
theorem LitAt.head {w : World} {B : Nat} {l : Lit} (h : LitAt w B l) {j : Nat} {x : Hd × List Ins} (hx : l.th[j]? = some x) : ∃ b o, l.tA = some ⟨b, o, none⟩ ∧ b < B ∧ w.cell? ⟨b, o + j, none⟩ = some (.slice x.1.1 x.1.2.1 x.1.2.2) := by
  have hj := (List.getElem?_eq_some_iff.1 hx).1
  obtain ⟨b, o, e, hb, hc⟩ := h.th.2 (by rw [h.tlen] at hj; omega)
  exact ⟨b, o, e, hb, hc j _ (by rw [List.getElem?_map, hx]; rfl)⟩
structure InsAt (x : Ins) (b o : Nat) (w : World) : Prop where
  c0 : w.cell? ⟨b, o, none⟩ = some (.int .i64 x.kind)
  c1 : w.cell? ⟨b, o + 1, none⟩ = some (.int .i64 x.reg)
  c2 : w.cell? ⟨b, o + 2, none⟩ = some (.int .i64 x.addr)
  c3 : w.cell? ⟨b, o + 3, none⟩ = some (.int .i64 x.value)
  c4 : w.cell? ⟨b, o + 4, none⟩ = some (.int .i64 x.src)
  c5 : w.cell? ⟨b, o + 5, none⟩ = some (.int .i64 x.old)
  c6 : w.cell? ⟨b, o + 6, none⟩ = some (.int .i64 x.count)
theorem ins_cell {w : World} {B n : Nat} {A : Option Addr} {c : List Ins} (h : Sl w B 7 A n (insVals c)) {i : Nat} {x : Ins} (hx : c[i]? = some x) : ∃ b o, A = some ⟨b, o, none⟩ ∧ b < B ∧ InsAt x b (o + i * 7) w := by
  have hi := (List.getElem?_eq_some_iff.1 hx).1
  have hl := h.1
  rw [insVals_len] at hl
  obtain ⟨b, o, e, hb, hc⟩ := h.2 (by omega)
  have g : ∀ q, q < 7 → ∀ u, (insL x)[q]? = some u → w.cell? ⟨b, o + (i * 7 + q), none⟩ = some u := fun q hq u hu => hc _ _ ((insVals_get hx q hq).trans hu)
  refine ⟨b, o, e, hb, ?_, ?_, ?_, ?_, ?_, ?_, ?_⟩
  · exact g 0 (by omega) _ rfl
  all_goals rw [Nat.add_assoc]
  · exact g 1 (by omega) _ rfl
  · exact g 2 (by omega) _ rfl
  · exact g 3 (by omega) _ rfl
  · exact g 4 (by omega) _ rfl
  · exact g 5 (by omega) _ rfl
  · exact g 6 (by omega) _ rfl

def regB (x : Ins) : Bool := decide (0 ≤ x.reg) && decide (x.reg < 4)
def adrB (nw : Nat) (x : Ins) : Bool := decide (0 ≤ x.addr) && decide (x.addr < nw)
/-- may an instruction be, over so many words -/
def okIns (nw : Nat) (x : Ins) : Bool :=
  if x.kind = 1 ∨ x.kind = 3 then regB x && adrB nw x
  else if x.kind = 2 then adrB nw x && (decide (-1 ≤ x.src) && decide (x.src < 4))
  else if x.kind = 4 then true
  else if x.kind = 5 ∨ x.kind = 6 then regB x
  else if x.kind = 7 then regB x && (decide (0 ≤ x.count) && decide (x.count ≤ 10))
  else false
/-- may a program be -/
def okLit (l : Lit) : Bool := decide (1 ≤ l.tn) && decide (l.tn ≤ 4) && decide (1 ≤ l.wn) && decide (l.wn ≤ 6) && l.th.all fun x => decide (x.1.2.1 ≤ 10) && x.2.all (okIns l.wn)
end Go.Proofs.Ytgbopmgeicokoaa
