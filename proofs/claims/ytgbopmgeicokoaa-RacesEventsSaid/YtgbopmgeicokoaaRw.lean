/-
  A row that has a block of its own, by its block; a state of a litmus run, plain and in memory.
-/
import Derived.Test.YtgbopmgeicokoaaLit
import Derived.Test.YtgbopmgeicokoaaApp0
namespace Go.Proofs.Ytgbopmgeicokoaa
open Go.RowKit

def Rw (W : World) (g : Nat) (t : TypeId) (sz n k : Nat) (xs : List Value) : Prop :=
  xs.length = n * sz ∧ ∃ cs : List Value, Blk W g t cs ∧ cs.length = k * sz ∧ cs.take (n * sz) = xs ∧ n ≤ k ∧ k ≤ maxLen
section
variable {W W' : World} {g sz n k : Nat} {t : TypeId} {xs : List Value}
theorem Rw.len (h : Rw W g t sz n k xs) : xs.length = n * sz := h.1
theorem Rw.nk (h : Rw W g t sz n k xs) : n ≤ k ∧ k ≤ maxLen := by obtain ⟨_, _, _, _, _, h1, h2⟩ := h; exact ⟨h1, h2⟩
theorem Rw.lt (h : Rw W g t sz n k xs) : g < W.heap.size := by obtain ⟨_, _, h1, _⟩ := h; exact h1.lt
theorem Rw.frozen (h : Rw W g t sz n k xs) (i : Nat) : W.frozen? ⟨g, i, none⟩ = false := by obtain ⟨_, _, h1, _⟩ := h; exact h1.frozen i
theorem Rw.cell (h : Rw W g t sz n k xs) {j : Nat} {v : Value} (hv : xs[j]? = some v) : W.cell? ⟨g, j, none⟩ = some v := by
  obtain ⟨hl, cs, h1, _, h3, _⟩ := h
  refine h1.cell ?_
  have hj := (List.getElem?_eq_some_iff.1 hv).1
  rw [← h3, List.getElem?_take_of_lt (by omega)] at hv
  exact hv
theorem Rw.kept (h : Rw W g t sz n k xs) (hk : W'.heap[g]? = W.heap[g]?) : Rw W' g t sz n k xs := by
  obtain ⟨hl, cs, h1, h2⟩ := h
  exact ⟨hl, cs, h1.kept hk, h2⟩
theorem Rw.below {B : Nat} (h : Rw W g t sz n k xs) (hb : Below B W W') (hg : g < B) : Rw W' g t sz n k xs := h.kept (hb.block g hg)
theorem Rw.on (h : Rw W g t sz n k xs) (hb : Below W.heap.size W W') : Rw W' g t sz n k xs := h.below hb h.lt
theorem Rw.alloc (h : Rw W g t sz n k xs) (o : Obj) : Rw (W.alloc o) g t sz n k xs := h.kept (Below.heap_alloc W o g h.lt)
theorem Rw.far (h : Rw W g t sz n k xs) {p : Addr} (hp : g ≠ p.block) (u : Value) : Rw (W.setCell p u) g t sz n k xs := h.kept (Below.heap_setCell W p u g hp)
theorem Rw.drew (h : Rw W g t sz n k xs) : Rw W.drew g t sz n k xs := h
theorem Rw.set_ (h : Rw W g t sz n k xs) (j : Nat) (u : Value) : Rw (W.setCell ⟨g, j, none⟩ u) g t sz n k (xs.set j u) := by
  obtain ⟨hl, cs, h1, h2, h3, h4⟩ := h
  refine ⟨by rw [List.length_set]; exact hl, cs.set j u, h1.set_ j u, by rw [List.length_set]; exact h2, ?_, h4⟩
  rw [List.take_set, h3]
theorem Rw.sl (h : Rw W g t sz n k xs) : Sl W W.heap.size sz (some ⟨g, 0, none⟩) n xs :=
  ⟨h.1, fun _ => ⟨g, 0, rfl, h.lt, fun j u hu => by rw [Nat.zero_add]; exact h.cell hu⟩⟩
theorem Rw.of_own {B : Nat} {A : Option Addr} (h : W.ownsRow B t sz (.slice A n k) n xs) (hN : 0 < n) : ∃ g, A = some ⟨g, 0, none⟩ ∧ B ≤ g ∧ Rw W g t sz n k xs := by
  have hl := h.1
  rcases h.2 with ⟨_, h0⟩ | ⟨g, cap, cur, hv, hB, hg, h1, h2, h3, h4⟩
  · omega
  · injection hv with hA _ hk
    subst hA hk
    exact ⟨g, rfl, hB, hl, cur.toList, by unfold Blk; rw [hg], by simpa using h3, h4, h1, h2⟩
theorem Rw.own {B : Nat} (h : Rw W g t sz n k xs) (hB : B ≤ g) : W.ownsRow B t sz (.slice (some ⟨g, 0, none⟩) n k) n xs := by
  obtain ⟨hl, cs, h1, h2, h3, h4, h5⟩ := h
  exact ⟨hl, Or.inr ⟨g, k, cs.toArray, rfl, hB, h1, h4, h5, by simp [h2], by simpa using h3⟩⟩
end
theorem lit_below {B : Nat} {W W' : World} {l : Lit} (h : LitAt W B l) (hB : B ≤ W.heap.size) (hb : Below W.heap.size W W') : LitAt W' B l := h.keep (hb.mono hB)

/-- what a litmus run has come to: words, registers (four a thread), places -/
structure LS where
  ws : List Int
  rs : List Int
  ps : List Nat
def natsI (l : List Nat) : List Value := l.map fun x : Nat => Value.int .i64 x
theorem natsI_len (l : List Nat) : (natsI l).length = l.length := by simp [natsI]
theorem natsI_get {l : List Nat} {k x : Nat} (h : l[k]? = some x) : (natsI l)[k]? = some (.int .i64 x) := by simp [natsI, h]
theorem ints_set (l : List Int) (j : Nat) (z : Int) : (ints l).set j (.int .i64 z) = ints (l.set j z) := by simp [ints, List.map_set]
theorem natsI_set (l : List Nat) (j z : Nat) : (natsI l).set j (.int .i64 z) = natsI (l.set j z) := by simp [natsI, List.map_set]
/-- where a state lies -/
structure SH where
  gw : Nat
  kw : Nat
  gr : Nat
  kr : Nat
  gp : Nat
  kp : Nat
  gb : Nat
  kb : Nat
structure StAt (W : World) (h : SH) (n nw : Nat) (S : LS) : Prop where
  w : Rw W h.gw 3 1 nw h.kw (ints S.ws)
  r : Rw W h.gr 173 4 n h.kr (ints S.rs)
  p : Rw W h.gp 3 1 n h.kp (natsI S.ps)
  b : Rw W h.gb 278 1 n h.kb (List.replicate n (.slice none 0 0))
  ne : h.gw ≠ h.gr ∧ h.gw ≠ h.gp ∧ h.gw ≠ h.gb ∧ h.gr ≠ h.gp ∧ h.gr ≠ h.gb ∧ h.gp ≠ h.gb
abbrev stL (h : SH) (n nw : Nat) : List Value := [.slice (some ⟨h.gw, 0, none⟩) nw h.kw, .slice (some ⟨h.gr, 0, none⟩) n h.kr, .slice (some ⟨h.gp, 0, none⟩) n h.kp, .slice (some ⟨h.gb, 0, none⟩) n h.kb]
abbrev stV (h : SH) (n nw : Nat) : Value := .agg #[.slice (some ⟨h.gw, 0, none⟩) nw h.kw, .slice (some ⟨h.gr, 0, none⟩) n h.kr, .slice (some ⟨h.gp, 0, none⟩) n h.kp, .slice (some ⟨h.gb, 0, none⟩) n h.kb]
section
variable {W W' : World} {h : SH} {n nw : Nat} {S : LS}
theorem StAt.on (s : StAt W h n nw S) (hb : Below W.heap.size W W') : StAt W' h n nw S := ⟨s.w.on hb, s.r.on hb, s.p.on hb, s.b.on hb, s.ne⟩
theorem StAt.wlen (s : StAt W h n nw S) : S.ws.length = nw := by have := s.w.1; rw [ints_len] at this; omega
theorem StAt.rlen (s : StAt W h n nw S) : S.rs.length = n * 4 := by have := s.r.1; rw [ints_len] at this; omega
theorem StAt.plen (s : StAt W h n nw S) : S.ps.length = n := by have := s.p.1; rw [natsI_len] at this; omega
theorem StAt.setW (s : StAt W h n nw S) (j : Nat) (z : Int) : StAt (W.setCell ⟨h.gw, j, none⟩ (.int .i64 z)) h n nw { S with ws := S.ws.set j z } :=
  ⟨by have := s.w.set_ j (.int .i64 z); rwa [ints_set] at this, s.r.far (Ne.symm s.ne.1) _, s.p.far (Ne.symm s.ne.2.1) _, s.b.far (Ne.symm s.ne.2.2.1) _, s.ne⟩
theorem StAt.setR (s : StAt W h n nw S) (j : Nat) (z : Int) : StAt (W.setCell ⟨h.gr, j, none⟩ (.int .i64 z)) h n nw { S with rs := S.rs.set j z } :=
  ⟨s.w.far s.ne.1 _, by have := s.r.set_ j (.int .i64 z); rwa [ints_set] at this, s.p.far (Ne.symm s.ne.2.2.2.1) _, s.b.far (Ne.symm s.ne.2.2.2.2.1) _, s.ne⟩
theorem StAt.setP (s : StAt W h n nw S) (j z : Nat) : StAt (W.setCell ⟨h.gp, j, none⟩ (.int .i64 z)) h n nw { S with ps := S.ps.set j z } :=
  ⟨s.w.far s.ne.2.1 _, s.r.far s.ne.2.2.2.1 _, by have := s.p.set_ j (.int .i64 z); rwa [natsI_set] at this, s.b.far (Ne.symm s.ne.2.2.2.2.2) _, s.ne⟩
theorem StAt.word (s : StAt W h n nw S) {a : Nat} {z : Int} (hz : S.ws[a]? = some z) : W.cell? ⟨h.gw, a, none⟩ = some (.int .i64 z) := s.w.cell (ints_get hz)
theorem StAt.reg (s : StAt W h n nw S) {a : Nat} {z : Int} (hz : S.rs[a]? = some z) : W.cell? ⟨h.gr, a, none⟩ = some (.int .i64 z) := s.r.cell (ints_get hz)
theorem StAt.place (s : StAt W h n nw S) {a z : Nat} (hz : S.ps[a]? = some z) : W.cell? ⟨h.gp, a, none⟩ = some (.int .i64 z) := s.p.cell (natsI_get hz)
theorem StAt.buf (s : StAt W h n nw S) {a : Nat} (ha : a < n) : W.cell? ⟨h.gb, a, none⟩ = some (.slice none 0 0) := s.b.cell (by rw [List.getElem?_replicate, if_pos ha])
end
/-- what nothing but the state's own three rows has turned -/
structure Fr (F : Nat → Prop) (W W' : World) : Prop where
  os : W'.os = W.os
  tape : W'.tape = W.tape
  output : W'.output = W.output
  size : W.heap.size ≤ W'.heap.size
  block : ∀ g, g < W.heap.size → ¬ F g → W'.heap[g]? = W.heap[g]?
section
variable {F : Nat → Prop} {W W' W'' : World}
theorem Fr.refl (F : Nat → Prop) (W : World) : Fr F W W := ⟨rfl, rfl, rfl, Nat.le_refl _, fun _ _ _ => rfl⟩
theorem Fr.of (h : Below W.heap.size W W') : Fr F W W' := ⟨h.os, h.tape, h.output, h.size, fun g hg _ => h.block g hg⟩
theorem Fr.trans (h : Fr F W W') (h2 : Fr F W' W'') : Fr F W W'' :=
  ⟨h2.os.trans h.os, h2.tape.trans h.tape, h2.output.trans h.output, Nat.le_trans h.size h2.size, fun g hg hf => (h2.block g (Nat.lt_of_lt_of_le hg h.size) hf).trans (h.block g hg hf)⟩
theorem Fr.setCell (h : Fr F W W') {p : Addr} (hp : F p.block) (u : Value) : Fr F W (W'.setCell p u) :=
  ⟨h.os, h.tape, h.output, by have := h.size; simpa [World.setCell] using this, fun g hg hf => (Below.heap_setCell W' p u g (fun he => hf (he ▸ hp))).trans (h.block g hg hf)⟩
theorem Fr.alloc (h : Fr F W W') (o : Obj) : Fr F W (W'.alloc o) :=
  ⟨h.os, h.tape, h.output, by have := h.size; simp; omega, fun g hg hf => (Below.heap_alloc W' o g (Nat.lt_of_lt_of_le hg h.size)).trans (h.block g hg hf)⟩
theorem Fr.drew (h : Fr F W W') : Fr F W W'.drew := ⟨h.os, h.tape, h.output, h.size, h.block⟩
theorem Fr.to_below {B : Nat} (h : Fr F W W') (hB : B ≤ W.heap.size) (hF : ∀ g, F g → B ≤ g) : Below B W W' :=
  ⟨h.os, h.tape, h.output, h.size, fun g hg => h.block g (Nat.lt_of_lt_of_le hg hB) (fun hf => by have := hF g hf; omega)⟩
end
def SF (h : SH) (g : Nat) : Prop := g = h.gw ∨ g = h.gr ∨ g = h.gp
end Go.Proofs.Ytgbopmgeicokoaa
