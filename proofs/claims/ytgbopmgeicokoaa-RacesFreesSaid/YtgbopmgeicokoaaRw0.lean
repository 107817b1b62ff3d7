/-
  api.Litmus as plain data, and as it lies in memory; which may be.
  A row that has a block of its own, by its block; a state of a litmus run, plain and in memory.
-/
import Derived.Test.YtgbopmgeicokoaaMem0
import Derived.Test.YtgbopmgeicokoaaWPlain
import Derived.Deep.LoopGhost
import Derived.Deep.Light
import Derived.Lib.Hide
namespace Go.Proofs.Ytgbopmgeicokoaa
open Go.RowKit

structure Ins where
  kind : Int
  reg : Int
  addr : Int
  value : Int
  src : Int
  old : Int
  count : Int
abbrev insL (x : Ins) : List Value := [.int .i64 x.kind, .int .i64 x.reg, .int .i64 x.addr, .int .i64 x.value, .int .i64 x.src, .int .i64 x.old, .int .i64 x.count]
abbrev insV (x : Ins) : Value := .agg #[.int .i64 x.kind, .int .i64 x.reg, .int .i64 x.addr, .int .i64 x.value, .int .i64 x.src, .int .i64 x.old, .int .i64 x.count]
def insVals (l : List Ins) : List Value := l.flatMap insL
abbrev Hd := Option Addr × Nat × Nat
structure Lit where
  wA : Option Addr
  wn : Nat
  wk : Nat
  ws : List Int
  tA : Option Addr
  tn : Nat
  tk : Nat
  th : List (Hd × List Ins)
abbrev litL (l : Lit) : List Value := [.slice l.wA l.wn l.wk, .slice l.tA l.tn l.tk]
abbrev litV (l : Lit) : Value := .agg #[.slice l.wA l.wn l.wk, .slice l.tA l.tn l.tk]
def SrcOk (x : Ins) : Prop := -9223372036854775808 ≤ x.src ∧ x.src ≤ 9223372036854775807
structure LitAt (w : World) (B : Nat) (l : Lit) : Prop where
  ws : Sl w B 1 l.wA l.wn (ints l.ws)
  wk : l.wn ≤ l.wk ∧ l.wk ≤ maxLen
  th : Sl w B 1 l.tA l.tn (l.th.map fun x => hdV x.1)
  tk : l.tn ≤ l.tk ∧ l.tk ≤ maxLen
  code : ∀ x ∈ l.th, Sl w B 7 x.1.1 x.1.2.1 (insVals x.2) ∧ (x.1.2.1 ≤ x.1.2.2 ∧ x.1.2.2 ≤ maxLen) ∧ ∀ i ∈ x.2, SrcOk i
theorem insVals_len (l : List Ins) : (insVals l).length = l.length * 7 := by
  induction l with
  | nil => rfl
  | cons a l ih =>
    show (insL a ++ insVals l).length = _
    rw [List.length_append, ih]
    show 7 + l.length * 7 = (l.length + 1) * 7
    omega
theorem insVals_get {l : List Ins} : ∀ {j : Nat} {x : Ins}, l[j]? = some x → ∀ q, q < 7 → (insVals l)[j * 7 + q]? = (insL x)[q]? := by
  induction l with
  | nil => intro j x h; simp at h
  | cons a l ih =>
    intro j x h q hq
    cases j with
    | zero =>
      simp at h
      subst h
      show (insL a ++ insVals l)[0 * 7 + q]? = _
      rw [List.getElem?_append_left (by show 0 * 7 + q < 7; omega)]
      congr 1
      omega
    | succ j =>
      show (insL a ++ insVals l)[(j + 1) * 7 + q]? = _
      rw [List.getElem?_append_right (by show 7 ≤ (j + 1) * 7 + q; omega), ← ih (j := j) (by simpa using h) q hq]
      congr 1
      show (j + 1) * 7 + q - 7 = _
      omega
theorem LitAt.keep {w w' : World} {B : Nat} {l : Lit} (h : LitAt w B l) (hb : Below B w w') : LitAt w' B l :=
  ⟨h.ws.below hb, h.wk, h.th.below hb, h.tk, fun x hx => ⟨(h.code x hx).1.below hb, (h.code x hx).2⟩⟩
theorem LitAt.up {w : World} {B B' : Nat} {l : Lit} (h : LitAt w B l) (hB : B ≤ B') : LitAt w B' l :=
  ⟨h.ws.up hB, h.wk, h.th.up hB, h.tk, fun x hx => ⟨(h.code x hx).1.up hB, (h.code x hx).2⟩⟩
theorem LitAt.wlen {w : World} {B : Nat} {l : Lit} (h : LitAt w B l) : l.ws.length = l.wn := by have := h.ws.1; rw [ints_len] at this; omega
theorem LitAt.tlen {w : World} {B : Nat} {l : Lit} (h : LitAt w B l) : l.th.length = l.tn := by have := h.th.1; rw [List.length_map] at this; omega
theorem LitAt.clen {w : World} {B : Nat} {l : Lit} (h : LitAt w B l) {x : Hd × List Ins} (hx : x ∈ l.th) : x.2.length = x.1.2.1 := by have := (h.code x hx).1.1; rw [insVals_len] at this; omega
/-- the header of a thread's code -/
theorem LitAt.head {w : World} {B : Nat} {l : Lit} (h : LitAt w B l) {j : Nat} {x : Hd × List Ins} (hx : l.th[j]? = some x) : ∃ b o, l.tA = some ⟨b, o, none⟩ ∧ b < B ∧ w.cell? ⟨b, o + j, none⟩ = some (.slice x.1.1 x.1.2.1 x.1.2.2) := by
  have hj := (List.getElem?_eq_some_iff.1 hx).1
  obtain ⟨b, o, e, hb, hc⟩ := h.th.2 (by rw [h.tlen] at hj; omega)
  exact ⟨b, o, e, hb, hc j _ (by rw [List.getElem?_map, hx]; rfl)⟩
structure InsAt (x : Ins) (b o : Nat) (w : World) : Prop where
  c0 : w.cell? ⟨b, o, none⟩ = some (.int .i64 x.kind)
  c1 : w.cell? ⟨b, o + 1, none⟩ = some (.int .i64 x.reg)
  c2 : w.cell? ⟨b, o + 2, none⟩ = some (.int .i64 x.addr)
  c3 : w.cell? ⟨b, o + 3, none⟩ = some (.int .i64 x.value)
  c4 : w.cell? ⟨b, o + 4, none⟩ = some (.int .i64 x.src)
  c5 : w.cell? ⟨b, o + 5, none⟩ = some (.int .i64 x.old)
  c6 : w.cell? ⟨b, o + 6, none⟩ = some (.int .i64 x.count)
theorem ins_cell {w : World} {B n : Nat} {A : Option Addr} {c : List Ins} (h : Sl w B 7 A n (insVals c)) {i : Nat} {x : Ins} (hx : c[i]? = some x) : ∃ b o, A = some ⟨b, o, none⟩ ∧ b < B ∧ InsAt x b (o + i * 7) w := by
  have hi := (List.getElem?_eq_some_iff.1 hx).1
  have hl := h.1
  rw [insVals_len] at hl
  obtain ⟨b, o, e, hb, hc⟩ := h.2 (by omega)
  have g : ∀ q, q < 7 → ∀ u, (insL x)[q]? = some u → w.cell? ⟨b, o + (i * 7 + q), none⟩ = some u := fun q hq u hu => hc _ _ ((insVals_get hx q hq).trans hu)
  refine ⟨b, o, e, hb, ?_, ?_, ?_, ?_, ?_, ?_, ?_⟩
  · exact g 0 (by omega) _ rfl
  all_goals rw [Nat.add_assoc]
  · exact g 1 (by omega) _ rfl
  · exact g 2 (by omega) _ rfl
  · exact g 3 (by omega) _ rfl
  · exact g 4 (by omega) _ rfl
  · exact g 5 (by omega) _ rfl
  · exact g 6 (by omega) _ rfl

def regB (x : Ins) : Bool := decide (0 ≤ x.reg) && decide (x.reg < 4)
def adrB (nw : Nat) (x : Ins) : Bool := decide (0 ≤ x.addr) && decide (x.addr < nw)
/-- may an instruction be, over so many words -/
def okIns (nw : Nat) (x : Ins) : Bool :=
  if x.kind = 1 ∨ x.kind = 3 then regB x && adrB nw x
  else if x.kind = 2 then adrB nw x && (decide (-1 ≤ x.src) && decide (x.src < 4))
  else if x.kind = 4 then true
  else if x.kind = 5 ∨ x.kind = 6 then regB x
  else if x.kind = 7 then regB x && (decide (0 ≤ x.count) && decide (x.count ≤ 10))
  else false
/-- may a program be -/
def okLit (l : Lit) : Bool := decide (1 ≤ l.tn) && decide (l.tn ≤ 4) && decide (1 ≤ l.wn) && decide (l.wn ≤ 6) && l.th.all fun x => decide (x.1.2.1 ≤ 10) && x.2.all (okIns l.wn)
end Go.Proofs.Ytgbopmgeicokoaa
namespace Go.Proofs.Ytgbopmgeicokoaa
open Go.RowKit

def Rw (W : World) (g : Nat) (t : TypeId) (sz n k : Nat) (xs : List Value) : Prop :=
  xs.length = n * sz ∧ ∃ cs : List Value, Blk W g t cs ∧ cs.length = k * sz ∧ cs.take (n * sz) = xs ∧ n ≤ k ∧ k ≤ maxLen
section
variable {W W' : World} {g sz n k : Nat} {t : TypeId} {xs : List Value}
theorem Rw.len (h : Rw W g t sz n k xs) : xs.length = n * sz := h.1
theorem Rw.nk (h : Rw W g t sz n k xs) : n ≤ k ∧ k ≤ maxLen := by obtain ⟨_, _, _, _, _, h1, h2⟩ := h; exact ⟨h1, h2⟩
theorem Rw.lt (h : Rw W g t sz n k xs) : g < W.heap.size := by obtain ⟨_, _, h1, _⟩ := h; exact h1.lt
theorem Rw.frozen (h : Rw W g t sz n k xs) (i : Nat) : W.frozen? ⟨g, i, none⟩ = false := by obtain ⟨_, _, h1, _⟩ := h; exact h1.frozen i
theorem Rw.cell (h : Rw W g t sz n k xs) {j : Nat} {v : Value} (hv : xs[j]? = some v) : W.cell? ⟨g, j, none⟩ = some v := by
  obtain ⟨hl, cs, h1, _, h3, _⟩ := h
  refine h1.cell ?_
  have hj := (List.getElem?_eq_some_iff.1 hv).1
  rw [← h3, List.getElem?_take_of_lt (by omega)] at hv
  exact hv
theorem Rw.kept (h : Rw W g t sz n k xs) (hk : W'.heap[g]? = W.heap[g]?) : Rw W' g t sz n k xs := by
  obtain ⟨hl, cs, h1, h2⟩ := h
  exact ⟨hl, cs, h1.kept hk, h2⟩
theorem Rw.below {B : Nat} (h : Rw W g t sz n k xs) (hb : Below B W W') (hg : g < B) : Rw W' g t sz n k xs := h.kept (hb.block g hg)
theorem Rw.on (h : Rw W g t sz n k xs) (hb : Below W.heap.size W W') : Rw W' g t sz n k xs := h.below hb h.lt
theorem Rw.far (h : Rw W g t sz n k xs) {p : Addr} (hp : g ≠ p.block) (u : Value) : Rw (W.setCell p u) g t sz n k xs := h.kept (Below.heap_setCell W p u g hp)
theorem Rw.drew (h : Rw W g t sz n k xs) : Rw W.drew g t sz n k xs := h
theorem Rw.set_ (h : Rw W g t sz n k xs) (j : Nat) (u : Value) : Rw (W.setCell ⟨g, j, none⟩ u) g t sz n k (xs.set j u) := by
  obtain ⟨hl, cs, h1, h2, h3, h4⟩ := h
  refine ⟨by rw [List.length_set]; exact hl, cs.set j u, h1.set_ j u, by rw [List.length_set]; exact h2, ?_, h4⟩
  rw [List.take_set, h3]
theorem Rw.sl (h : Rw W g t sz n k xs) : Sl W W.heap.size sz (some ⟨g, 0, none⟩) n xs :=
  ⟨h.1, fun _ => ⟨g, 0, rfl, h.lt, fun j u hu => by rw [Nat.zero_add]; exact h.cell hu⟩⟩
theorem Rw.of_own {B : Nat} {A : Option Addr} (h : W.ownsRow B t sz (.slice A n k) n xs) (hN : 0 < n) : ∃ g, A = some ⟨g, 0, none⟩ ∧ B ≤ g ∧ Rw W g t sz n k xs := by
  have hl := h.1
  rcases h.2 with ⟨_, h0⟩ | ⟨g, cap, cur, hv, hB, hg, h1, h2, h3, h4⟩
  · omega
  · injection hv with hA _ hk
    subst hA hk
    exact ⟨g, rfl, hB, hl, cur.toList, by unfold Blk; rw [hg], by simpa using h3, h4, h1, h2⟩
theorem Rw.own {B : Nat} (h : Rw W g t sz n k xs) (hB : B ≤ g) : W.ownsRow B t sz (.slice (some ⟨g, 0, none⟩) n k) n xs := by
  obtain ⟨hl, cs, h1, h2, h3, h4, h5⟩ := h
  exact ⟨hl, Or.inr ⟨g, k, cs.toArray, rfl, hB, h1, h4, h5, by simp [h2], by simpa using h3⟩⟩
end
/-- what a litmus run has come to: words, registers (four a thread), places -/
structure LS where
  ws : List Int
  rs : List Int
  ps : List Nat
def natsI (l : List Nat) : List Value := l.map fun x : Nat => Value.int .i64 x
theorem natsI_len (l : List Nat) : (natsI l).length = l.length := by simp [natsI]
theorem natsI_get {l : List Nat} {k x : Nat} (h : l[k]? = some x) : (natsI l)[k]? = some (.int .i64 x) := by simp [natsI, h]
theorem ints_set (l : List Int) (j : Nat) (z : Int) : (ints l).set j (.int .i64 z) = ints (l.set j z) := by simp [ints, List.map_set]
theorem natsI_set (l : List Nat) (j z : Nat) : (natsI l).set j (.int .i64 z) = natsI (l.set j z) := by simp [natsI, List.map_set]
/-- where a state lies -/
structure SH where
  gw : Nat
  kw : Nat
  gr : Nat
  kr : Nat
  gp : Nat
  kp : Nat
  gb : Nat
  kb : Nat
structure StAt (W : World) (h : SH) (n nw : Nat) (S : LS) : Prop where
  w : Rw W h.gw 3 1 nw h.kw (ints S.ws)
  r : Rw W h.gr 173 4 n h.kr (ints S.rs)
  p : Rw W h.gp 3 1 n h.kp (natsI S.ps)
  b : Rw W h.gb 278 1 n h.kb (List.replicate n (.slice none 0 0))
  ne : h.gw ≠ h.gr ∧ h.gw ≠ h.gp ∧ h.gw ≠ h.gb ∧ h.gr ≠ h.gp ∧ h.gr ≠ h.gb ∧ h.gp ≠ h.gb
abbrev stL (h : SH) (n nw : Nat) : List Value := [.slice (some ⟨h.gw, 0, none⟩) nw h.kw, .slice (some ⟨h.gr, 0, none⟩) n h.kr, .slice (some ⟨h.gp, 0, none⟩) n h.kp, .slice (some ⟨h.gb, 0, none⟩) n h.kb]
abbrev stV (h : SH) (n nw : Nat) : Value := .agg #[.slice (some ⟨h.gw, 0, none⟩) nw h.kw, .slice (some ⟨h.gr, 0, none⟩) n h.kr, .slice (some ⟨h.gp, 0, none⟩) n h.kp, .slice (some ⟨h.gb, 0, none⟩) n h.kb]
section
variable {W W' : World} {h : SH} {n nw : Nat} {S : LS}
theorem StAt.on (s : StAt W h n nw S) (hb : Below W.heap.size W W') : StAt W' h n nw S := ⟨s.w.on hb, s.r.on hb, s.p.on hb, s.b.on hb, s.ne⟩
theorem StAt.wlen (s : StAt W h n nw S) : S.ws.length = nw := by have := s.w.1; rw [ints_len] at this; omega
theorem StAt.rlen (s : StAt W h n nw S) : S.rs.length = n * 4 := by have := s.r.1; rw [ints_len] at this; omega
theorem StAt.plen (s : StAt W h n nw S) : S.ps.length = n := by have := s.p.1; rw [natsI_len] at this; omega
theorem StAt.setW (s : StAt W h n nw S) (j : Nat) (z : Int) : StAt (W.setCell ⟨h.gw, j, none⟩ (.int .i64 z)) h n nw { S with ws := S.ws.set j z } :=
  ⟨by have := s.w.set_ j (.int .i64 z); rwa [ints_set] at this, s.r.far (Ne.symm s.ne.1) _, s.p.far (Ne.symm s.ne.2.1) _, s.b.far (Ne.symm s.ne.2.2.1) _, s.ne⟩
theorem StAt.setR (s : StAt W h n nw S) (j : Nat) (z : Int) : StAt (W.setCell ⟨h.gr, j, none⟩ (.int .i64 z)) h n nw { S with rs := S.rs.set j z } :=
  ⟨s.w.far s.ne.1 _, by have := s.r.set_ j (.int .i64 z); rwa [ints_set] at this, s.p.far (Ne.symm s.ne.2.2.2.1) _, s.b.far (Ne.symm s.ne.2.2.2.2.1) _, s.ne⟩
theorem StAt.setP (s : StAt W h n nw S) (j z : Nat) : StAt (W.setCell ⟨h.gp, j, none⟩ (.int .i64 z)) h n nw { S with ps := S.ps.set j z } :=
  ⟨s.w.far s.ne.2.1 _, s.r.far s.ne.2.2.2.1 _, by have := s.p.set_ j (.int .i64 z); rwa [natsI_set] at this, s.b.far (Ne.symm s.ne.2.2.2.2.2) _, s.ne⟩
theorem StAt.word (s : StAt W h n nw S) {a : Nat} {z : Int} (hz : S.ws[a]? = some z) : W.cell? ⟨h.gw, a, none⟩ = some (.int .i64 z) := s.w.cell (ints_get hz)
theorem StAt.reg (s : StAt W h n nw S) {a : Nat} {z : Int} (hz : S.rs[a]? = some z) : W.cell? ⟨h.gr, a, none⟩ = some (.int .i64 z) := s.r.cell (ints_get hz)
theorem StAt.place (s : StAt W h n nw S) {a z : Nat} (hz : S.ps[a]? = some z) : W.cell? ⟨h.gp, a, none⟩ = some (.int .i64 z) := s.p.cell (natsI_get hz)
theorem StAt.buf (s : StAt W h n nw S) {a : Nat} (ha : a < n) : W.cell? ⟨h.gb, a, none⟩ = some (.slice none 0 0) := s.b.cell (by rw [List.getElem?_replicate, if_pos ha])
end
/-- what nothing but the state's own three rows has turned -/
structure Fr (F : Nat → Prop) (W W' : World) : Prop where
  os : W'.os = W.os
  tape : W'.tape = W.tape
  output : W'.output = W.output
  size : W.heap.size ≤ W'.heap.size
  block : ∀ g, g < W.heap.size → ¬ F g → W'.heap[g]? = W.heap[g]?
section
variable {F : Nat → Prop} {W W' W'' : World}
theorem Fr.refl (F : Nat → Prop) (W : World) : Fr F W W := ⟨rfl, rfl, rfl, Nat.le_refl _, fun _ _ _ => rfl⟩
theorem Fr.of (h : Below W.heap.size W W') : Fr F W W' := ⟨h.os, h.tape, h.output, h.size, fun g hg _ => h.block g hg⟩
theorem Fr.trans (h : Fr F W W') (h2 : Fr F W' W'') : Fr F W W'' :=
  ⟨h2.os.trans h.os, h2.tape.trans h.tape, h2.output.trans h.output, Nat.le_trans h.size h2.size, fun g hg hf => (h2.block g (Nat.lt_of_lt_of_le hg h.size) hf).trans (h.block g hg hf)⟩
theorem Fr.setCell (h : Fr F W W') {p : Addr} (hp : F p.block) (u : Value) : Fr F W (W'.setCell p u) :=
  ⟨h.os, h.tape, h.output, by have := h.size; simpa [World.setCell] using this, fun g hg hf => (Below.heap_setCell W' p u g (fun he => hf (he ▸ hp))).trans (h.block g hg hf)⟩
theorem Fr.alloc (h : Fr F W W') (o : Obj) : Fr F W (W'.alloc o) :=
  ⟨h.os, h.tape, h.output, by have := h.size; simp; omega, fun g hg hf => (Below.heap_alloc W' o g (Nat.lt_of_lt_of_le hg h.size)).trans (h.block g hg hf)⟩
theorem Fr.drew (h : Fr F W W') : Fr F W W'.drew := ⟨h.os, h.tape, h.output, h.size, h.block⟩
theorem Fr.to_below {B : Nat} (h : Fr F W W') (hB : B ≤ W.heap.size) (hF : ∀ g, F g → B ≤ g) : Below B W W' :=
  ⟨h.os, h.tape, h.output, h.size, fun g hg => h.block g (Nat.lt_of_lt_of_le hg hB) (fun hf => by have := hF g hf; omega)⟩
end
def SF (h : SH) (g : Nat) : Prop := g = h.gw ∨ g = h.gr ∨ g = h.gp
end Go.Proofs.Ytgbopmgeicokoaa
