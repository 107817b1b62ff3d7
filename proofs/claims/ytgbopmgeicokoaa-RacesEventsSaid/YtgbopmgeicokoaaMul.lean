/-
  api.Multi as plain data, and as it lies in memory.
-/
import Derived.Test.YtgbopmgeicokoaaMem
namespace Go.Proofs.Ytgbopmgeicokoaa
open Go.RowKit

/-- an entry of a swap: cell, old, new -/
abbrev Ent := Int × Int × Int
structure Mul where
  threads : Int
  cells : List Int
  swaps : List (List Ent)
  uses : Int

def ints (l : List Int) : List Value := l.map (Value.int .i64)
def u64s (l : List Int) : List Value := l.map (Value.int .u64)
def entVals (l : List Ent) : List Value := l.flatMap fun x => [.int .i64 x.1, .int .i64 x.2.1, .int .i64 x.2.2]

theorem entVals_len (l : List Ent) : (entVals l).length = l.length * 3 := by
  induction l with
  | nil => rfl
  | cons a l ih => simp only [entVals, List.flatMap_cons, List.length_append, List.length_cons, List.length_nil] at ih ⊢; omega
theorem entVals_get (l : List Ent) (k : Nat) (x : Ent) (h : l[k]? = some x) :
    (entVals l)[k * 3]? = some (.int .i64 x.1) ∧ (entVals l)[k * 3 + 1]? = some (.int .i64 x.2.1) ∧ (entVals l)[k * 3 + 2]? = some (.int .i64 x.2.2) := by
  induction l generalizing k with
  | nil => simp at h
  | cons a l ih =>
    cases k with
    | zero => simp at h; subst h; simp [entVals]
    | succ k =>
      have := ih k (by simpa using h)
      have e : entVals (a :: l) = [.int .i64 a.1, .int .i64 a.2.1, .int .i64 a.2.2] ++ entVals l := rfl
      rw [e]
      refine ⟨?_, ?_, ?_⟩
      · rw [List.getElem?_append_right (by simp; omega)]; rw [← this.1]; congr 1; simp; omega
      · rw [List.getElem?_append_right (by simp; omega)]; rw [← this.2.1]; congr 1; simp; omega
      · rw [List.getElem?_append_right (by simp; omega)]; rw [← this.2.2]; congr 1; simp; omega

theorem ints_get {l : List Int} {k : Nat} {x : Int} (h : l[k]? = some x) : (ints l)[k]? = some (.int .i64 x) := by simp [ints, h]
theorem u64s_get {l : List Int} {k : Nat} {x : Int} (h : l[k]? = some x) : (u64s l)[k]? = some (.int .u64 x) := by simp [u64s, h]
theorem ints_len (l : List Int) : (ints l).length = l.length := by simp [ints]
theorem u64s_len (l : List Int) : (u64s l).length = l.length := by simp [u64s]

/-- A slice's header as a value. -/
abbrev hdV (h : Option Addr × Nat × Nat) : Value := .slice h.1 h.2.1 h.2.2

/-- m slices from address S on, each of elements of sz cells, read as the rows. -/
def SlSl (w : World) (B sz : Nat) (S : Option Addr) (m : Nat) (rows : List (List Value)) : Prop :=
  ∃ hs : List (Option Addr × Nat × Nat), rows.length = m ∧ Sl w B 1 S m (hs.map hdV) ∧
    ∀ (i : Nat) (h : Option Addr × Nat × Nat) (r : List Value), hs[i]? = some h → rows[i]? = some r → Sl w B sz h.1 h.2.1 r ∧ h.2.1 ≤ h.2.2 ∧ h.2.2 ≤ maxLen

section
variable {w w' : World} {B B' sz m : Nat} {S : Option Addr} {rows : List (List Value)}
theorem SlSl.keep (h : SlSl w B sz S m rows) (hk : ∀ p : Addr, p.block < B → w'.cell? p = w.cell? p) : SlSl w' B sz S m rows := by
  obtain ⟨hs, h1, h2, h3⟩ := h
  exact ⟨hs, h1, h2.keep hk, fun i x r hx hr => ⟨(h3 i x r hx hr).1.keep hk, (h3 i x r hx hr).2⟩⟩
theorem SlSl.up (h : SlSl w B sz S m rows) (hB : B ≤ B') : SlSl w B' sz S m rows := by
  obtain ⟨hs, h1, h2, h3⟩ := h
  exact ⟨hs, h1, h2.up hB, fun i x r hx hr => ⟨(h3 i x r hx hr).1.up hB, (h3 i x r hx hr).2⟩⟩
theorem SlSl.below (h : SlSl w B sz S m rows) (hb : Below B w w') : SlSl w' B sz S m rows := h.keep fun _ hp => hb.cell hp
theorem SlSl.len (h : SlSl w B sz S m rows) : rows.length = m := h.choose_spec.1
theorem SlSl.nil : SlSl w B sz S 0 [] := ⟨[], rfl, Sl.nil, fun i x r hx _ => by simp at hx⟩
/-- the header of row i, and the row -/
theorem SlSl.at_ (h : SlSl w B sz S m rows) {i : Nat} {r : List Value} (hr : rows[i]? = some r) :
    ∃ b o A n c, S = some ⟨b, o, none⟩ ∧ b < B ∧ w.cell? ⟨b, o + i, none⟩ = some (.slice A n c) ∧ Sl w B sz A n r ∧ n ≤ c ∧ c ≤ maxLen := by
  obtain ⟨hs, h1, h2, h3⟩ := h
  have hi : i < m := by rw [← h1]; exact (List.getElem?_eq_some_iff.1 hr).1
  obtain ⟨b, o, e, hb, hc⟩ := h2.2 (by omega)
  have hl : (hs.map hdV).length = m * 1 := h2.1
  have hih : i < hs.length := by simpa using (by omega : i < (hs.map hdV).length)
  have hx := List.getElem?_eq_getElem hih
  obtain ⟨a1, a2, a3⟩ := h3 i _ r hx hr
  exact ⟨b, o, _, _, _, e, hb, hc i _ (by rw [List.getElem?_map, hx]; rfl), a1, a2, a3⟩
end

/-- A Multi in memory: the two slices of its value. -/
structure MulAt (w : World) (B : Nat) (A : Option Addr) (n k : Nat) (S : Option Addr) (m l : Nat) (c : Mul) : Prop where
  cells : Sl w B 1 A n (ints c.cells)
  swaps : SlSl w B 3 S m (c.swaps.map entVals)
  nk : n ≤ k ∧ k ≤ maxLen
  ml : m ≤ l ∧ l ≤ maxLen

section
variable {w w' : World} {B B' n k m l : Nat} {A S : Option Addr} {c : Mul}
theorem MulAt.n_eq (h : MulAt w B A n k S m l c) : n = c.cells.length := by have := h.cells.1; rw [ints_len] at this; omega
theorem MulAt.m_eq (h : MulAt w B A n k S m l c) : m = c.swaps.length := by have := h.swaps.len; simpa using this.symm
theorem MulAt.keep (h : MulAt w B A n k S m l c) (hk : ∀ p : Addr, p.block < B → w'.cell? p = w.cell? p) : MulAt w' B A n k S m l c :=
  ⟨h.cells.keep hk, h.swaps.keep hk, h.nk, h.ml⟩
theorem MulAt.up (h : MulAt w B A n k S m l c) (hB : B ≤ B') : MulAt w B' A n k S m l c := ⟨h.cells.up hB, h.swaps.up hB, h.nk, h.ml⟩
theorem MulAt.below (h : MulAt w B A n k S m l c) (hb : Below B w w') : MulAt w' B A n k S m l c := h.keep fun _ hp => hb.cell hp
theorem MulAt.swap (h : MulAt w B A n k S m l c) {i : Nat} {es : List Ent} (hi : c.swaps[i]? = some es) :
    ∃ b o A' n' c', S = some ⟨b, o, none⟩ ∧ b < B ∧ w.cell? ⟨b, o + i, none⟩ = some (.slice A' n' c') ∧ Sl w B 3 A' n' (entVals es) ∧ n' = es.length ∧ n' ≤ c' ∧ c' ≤ maxLen := by
  obtain ⟨b, o, A', n', c', h1, h2, h3, h4, h5, h6⟩ := h.swaps.at_ (i := i) (r := entVals es) (by simp [hi])
  exact ⟨b, o, A', n', c', h1, h2, h3, h4, by have := h4.1; rw [entVals_len] at this; omega, h5, h6⟩
end

/-- the four slots of a Multi's value -/
abbrev mulV (c : Mul) (A : Option Addr) (n k : Nat) (S : Option Addr) (m l : Nat) : Value := .agg #[.int .i64 c.threads, .slice A n k, .slice S m l, .int .i64 c.uses]

/-- may a number be a cell's? -/
def valB (v : Int) : Bool := decide (0 ≤ v) && decide (v ≤ 1048575)
def entsB (cells : Nat) : Int → List Ent → Bool
  | _, [] => true
  | last, e :: r => decide (last < e.1) && (decide (e.1 < cells) && (valB e.2.1 && (valB e.2.2 && entsB cells e.1 r)))
def swapB (cells : Nat) (es : List Ent) : Bool := decide (1 ≤ es.length) && (decide (es.length ≤ 4) && entsB cells (-1) es)
def headB (c : Mul) : Bool :=
  decide (1 ≤ c.threads) && (decide (c.threads ≤ 16) && (decide (1 ≤ c.cells.length) && (decide (c.cells.length ≤ 32) && (decide (c.swaps.length ≤ 16) && (decide (1 ≤ c.uses) && decide (c.uses ≤ 64))))))
/-- may a memory be? -/
def okB (c : Mul) : Bool := headB c && (c.cells.all valB && c.swaps.all (swapB c.cells.length))
end Go.Proofs.Ytgbopmgeicokoaa
