/-
A row that has a block of its own, by its block; a state of 
-/
import Derived.Test.YtgjdgapfnfhklaaGreatZ20
import Derived.Test.YtgjdgapfnfhklaaGreatZ1
import Derived.Deep.MidRow
import Derived.Deep.WholeRow
set_option linter.unusedSimpArgs false
set_option linter.unusedVariables false
set_option maxRecDepth 100000
set_option maxHeartbeats 4000000
namespace Go.Proofs.YtgjdgapfnfhklaaGreat
open Go.RowKit
def Rw (W : World) (g : Nat) (t : TypeId) (sz n k : Nat) (xs : List Value) : Prop :=
 xs.length = n * sz /\ ∃ cs : List Value, Blk W g t cs /\ cs.length = k * sz /\ cs.take (n * sz) = xs /\ n <= k /\ k <= maxLen
section
variable {W W' : World} {g sz n k : Nat} {t : TypeId} {xs : List Value}
theorem Rw.len (h : Rw W g t sz n k xs) : xs.length = n * sz := h.1
theorem Rw.nk (h : Rw W g t sz n k xs) : n <= k /\ k <= maxLen := by obtain ⟨_, _, _, _, _, h1, h2⟩ := h; exact ⟨h1, h2⟩
theorem Rw.lt (h : Rw W g t sz n k xs) : g < W.heap.size := by obtain ⟨_, _, h1, _⟩ := h; exact h1.lt
theorem Rw.frozen (h : Rw W g t sz n k xs) (i : Nat) : W.frozen? ⟨g, i, none⟩ = false := by obtain ⟨_, _, h1, _⟩ := h; exact h1.frozen i
theorem Rw.cell (h : Rw W g t sz n k xs) {j : Nat} {v : Value} (hv : xs[j]? = some v) : W.cell? ⟨g, j, none⟩ = some v := by
 obtain ⟨hl, cs, h1, _, h3, _⟩ := h
 refine h1.cell ?_
 have hj := (List.getElem?_eq_some_iff.1 hv).1
 rw [<- h3, List.getElem?_take_of_lt (by omega)] at hv
 exact hv
theorem Rw.kept (h : Rw W g t sz n k xs) (hk : W'.heap[g]? = W.heap[g]?) : Rw W' g t sz n k xs := by
 obtain ⟨hl, cs, h1, h2⟩ := h
 exact ⟨hl, cs, h1.kept hk, h2⟩
theorem Rw.below {B : Nat} (h : Rw W g t sz n k xs) (hb : Below B W W') (hg : g < B) : Rw W' g t sz n k xs := h.kept (hb.block g hg)
theorem Rw.on (h : Rw W g t sz n k xs) (hb : Below W.heap.size W W') : Rw W' g t sz n k xs := h.below hb h.lt
theorem Rw.far (h : Rw W g t sz n k xs) {p : Addr} (hp : g ≠ p.block) (u : Value) : Rw (W.setCell p u) g t sz n k xs := h.kept (Below.heap_setCell W p u g hp)
theorem Rw.drew (h : Rw W g t sz n k xs) : Rw W.drew g t sz n k xs := h
theorem Rw.set_ (h : Rw W g t sz n k xs) (j : Nat) (u : Value) : Rw (W.setCell ⟨g, j, none⟩ u) g t sz n k (xs.set j u) := by
 obtain ⟨hl, cs, h1, h2, h3, h4⟩ := h
 refine ⟨by rw [List.length_set]; exact hl, cs.set j u, h1.set_ j u, by rw [List.length_set]; exact h2, ?_, h4⟩
 rw [List.take_set, h3]
theorem Rw.sl (h : Rw W g t sz n k xs) : Sl W W.heap.size sz (some ⟨g, 0, none⟩) n xs :=
 ⟨h.1, fun _ => ⟨g, 0, rfl, h.lt, fun j u hu => by rw [Nat.zero_add]; exact h.cell hu⟩⟩
theorem Rw.of_own {B : Nat} {A : Option Addr} (h : W.ownsRow B t sz (.slice A n k) n xs) (hN : 0 < n) : ∃ g, A = some ⟨g, 0, none⟩ /\ B <= g /\ Rw W g t sz n k xs := by
 have hl := h.1
 rcases h.2 with ⟨_, h0⟩ | ⟨g, cap, cur, hv, hB, hg, h1, h2, h3, h4⟩
 ·omega
 ·injection hv with hA _ hk
  subst hA hk
  exact ⟨g, rfl, hB, hl, cur.toList, by unfold Blk; rw [hg], by simpa using h3, h4, h1, h2⟩
theorem Rw.own {B : Nat} (h : Rw W g t sz n k xs) (hB : B <= g) : W.ownsRow B t sz (.slice (some ⟨g, 0, none⟩) n k) n xs := by
 obtain ⟨hl, cs, h1, h2, h3, h4, h5⟩ := h
 exact ⟨hl, Or.inr ⟨g, k, cs.toArray, rfl, hB, h1, h4, h5, by simp [h2], by simpa using h3⟩⟩
end
structure LS where
 ws : List Int
 rs : List Int
 ps : List Nat
def natsI (l : List Nat) : List Value := l.map fun x : Nat => Value.int .i64 x
theorem natsI_len (l : List Nat) : (natsI l).length = l.length := by simp [natsI]
theorem natsI_get {l : List Nat} {k x : Nat} (h : l[k]? = some x) : (natsI l)[k]? = some (.int .i64 x) := by simp [natsI, h]
theorem ints_set (l : List Int) (j : Nat) (z : Int) : (ints l).set j (.int .i64 z) = ints (l.set j z) := by simp [ints, List.map_set]
theorem natsI_set (l : List Nat) (j z : Nat) : (natsI l).set j (.int .i64 z) = natsI (l.set j z) := by simp [natsI, List.map_set]
structure SH where
 gw : Nat
 kw : Nat
 gr : Nat
 kr : Nat
 gp : Nat
 kp : Nat
 gb : Nat
 kb : Nat
structure StAt (W : World) (h : SH) (n nw : Nat) (S : LS) : Prop where
 w : Rw W h.gw 3 1 nw h.kw (ints S.ws)
 r : Rw W h.gr 96 4 n h.kr (ints S.rs)
 p : Rw W h.gp 3 1 n h.kp (natsI S.ps)
 b : Rw W h.gb 161 1 n h.kb (List.replicate n (.slice none 0 0))
 ne : h.gw ≠ h.gr /\ h.gw ≠ h.gp /\ h.gw ≠ h.gb /\ h.gr ≠ h.gp /\ h.gr ≠ h.gb /\ h.gp ≠ h.gb
abbrev stL (h : SH) (n nw : Nat) : List Value := [.slice (some ⟨h.gw, 0, none⟩) nw h.kw, .slice (some ⟨h.gr, 0, none⟩) n h.kr, .slice (some ⟨h.gp, 0, none⟩) n h.kp, .slice (some ⟨h.gb, 0, none⟩) n h.kb]
abbrev stV (h : SH) (n nw : Nat) : Value := .agg #[.slice (some ⟨h.gw, 0, none⟩) nw h.kw, .slice (some ⟨h.gr, 0, none⟩) n h.kr, .slice (some ⟨h.gp, 0, none⟩) n h.kp, .slice (some ⟨h.gb, 0, none⟩) n h.kb]
section
variable {W W' : World} {h : SH} {n nw : Nat} {S : LS}
theorem StAt.on (s : StAt W h n nw S) (hb : Below W.heap.size W W') : StAt W' h n nw S := ⟨s.w.on hb, s.r.on hb, s.p.on hb, s.b.on hb, s.ne⟩
theorem StAt.wlen (s : StAt W h n nw S) : S.ws.length = nw := by have := s.w.1; rw [ints_len] at this; omega
theorem StAt.rlen (s : StAt W h n nw S) : S.rs.length = n * 4 := by have := s.r.1; rw [ints_len] at this; omega
theorem StAt.plen (s : StAt W h n nw S) : S.ps.length = n := by have := s.p.1; rw [natsI_len] at this; omega
theorem StAt.setW (s : StAt W h n nw S) (j : Nat) (z : Int) : StAt (W.setCell ⟨h.gw, j, none⟩ (.int .i64 z)) h n nw { S with ws := S.ws.set j z } :=
 ⟨by have := s.w.set_ j (.int .i64 z); rwa [ints_set] at this, s.r.far (Ne.symm s.ne.1) _, s.p.far (Ne.symm s.ne.2.1) _, s.b.far (Ne.symm s.ne.2.2.1) _, s.ne⟩
theorem StAt.setR (s : StAt W h n nw S) (j : Nat) (z : Int) : StAt (W.setCell ⟨h.gr, j, none⟩ (.int .i64 z)) h n nw { S with rs := S.rs.set j z } :=
 ⟨s.w.far s.ne.1 _, by have := s.r.set_ j (.int .i64 z); rwa [ints_set] at this, s.p.far (Ne.symm s.ne.2.2.2.1) _, s.b.far (Ne.symm s.ne.2.2.2.2.1) _, s.ne⟩
theorem StAt.setP (s : StAt W h n nw S) (j z : Nat) : StAt (W.setCell ⟨h.gp, j, none⟩ (.int .i64 z)) h n nw { S with ps := S.ps.set j z } :=
 ⟨s.w.far s.ne.2.1 _, s.r.far s.ne.2.2.2.1 _, by have := s.p.set_ j (.int .i64 z); rwa [natsI_set] at this, s.b.far (Ne.symm s.ne.2.2.2.2.2) _, s.ne⟩
theorem StAt.word (s : StAt W h n nw S) {a : Nat} {z : Int} (hz : S.ws[a]? = some z) : W.cell? ⟨h.gw, a, none⟩ = some (.int .i64 z) := s.w.cell (ints_get hz)
theorem StAt.reg (s : StAt W h n nw S) {a : Nat} {z : Int} (hz : S.rs[a]? = some z) : W.cell? ⟨h.gr, a, none⟩ = some (.int .i64 z) := s.r.cell (ints_get hz)
theorem StAt.place (s : StAt W h n nw S) {a z : Nat} (hz : S.ps[a]? = some z) : W.cell? ⟨h.gp, a, none⟩ = some (.int .i64 z) := s.p.cell (natsI_get hz)
theorem StAt.buf (s : StAt W h n nw S) {a : Nat} (ha : a < n) : W.cell? ⟨h.gb, a, none⟩ = some (.slice none 0 0) := s.b.cell (by rw [List.getElem?_replicate, if_pos ha])
end
structure Fr (F : Nat -> Prop) (W W' : World) : Prop where
 os : W'.os = W.os
 tape : W'.tape = W.tape
 output : W'.output = W.output
 size : W.heap.size <= W'.heap.size
 block : ∀ g, g < W.heap.size -> ¬ F g -> W'.heap[g]? = W.heap[g]?
section
variable {F : Nat -> Prop} {W W' W'' : World}
theorem Fr.refl (F : Nat -> Prop) (W : World) : Fr F W W := ⟨rfl, rfl, rfl, Nat.le_refl _, fun _ _ _ => rfl⟩
theorem Fr.of (h : Below W.heap.size W W') : Fr F W W' := ⟨h.os, h.tape, h.output, h.size, fun g hg _ => h.block g hg⟩
theorem Fr.trans (h : Fr F W W') (h2 : Fr F W' W'') : Fr F W W'' :=
 ⟨h2.os.trans h.os, h2.tape.trans h.tape, h2.output.trans h.output, Nat.le_trans h.size h2.size, fun g hg hf => (h2.block g (Nat.lt_of_lt_of_le hg h.size) hf).trans (h.block g hg hf)⟩
theorem Fr.setCell (h : Fr F W W') {p : Addr} (hp : F p.block) (u : Value) : Fr F W (W'.setCell p u) :=
 ⟨h.os, h.tape, h.output, by have := h.size; simpa [World.setCell] using this, fun g hg hf => (Below.heap_setCell W' p u g (fun he => hf (he ▸ hp))).trans (h.block g hg hf)⟩
theorem Fr.alloc (h : Fr F W W') (o : Obj) : Fr F W (W'.alloc o) :=
 ⟨h.os, h.tape, h.output, by have := h.size; simp; omega, fun g hg hf => (Below.heap_alloc W' o g (Nat.lt_of_lt_of_le hg h.size)).trans (h.block g hg hf)⟩
theorem Fr.drew (h : Fr F W W') : Fr F W W'.drew := ⟨h.os, h.tape, h.output, h.size, h.block⟩
theorem Fr.to_below {B : Nat} (h : Fr F W W') (hB : B <= W.heap.size) (hF : ∀ g, F g -> B <= g) : Below B W W' :=
 ⟨h.os, h.tape, h.output, h.size, fun g hg => h.block g (Nat.lt_of_lt_of_le hg hB) (fun hf => by have := hF g hf; omega)⟩
end
def SF (h : SH) (g : Nat) : Prop := g = h.gw ∨ g = h.gr ∨ g = h.gp
end Go.Proofs.YtgjdgapfnfhklaaGreat
namespace Go.Proofs.YtgjdgapfnfhklaaGreat
open Go.RowKit
theorem run_index_ints {P : Program} (t e : TypeId) (n : Nat) (q : IntKind) (cs : Array Value) (j : Nat) (v : Value) (w : World) (hu : P.underlying t = some (.array n e)) (he : P.underlying e = some (.int q)) (hs : (P.info? e).map (·.size) = some 1) (hj : j < n) (hv : cs[j]? = some v) :
  (Instr.index t (.agg cs) (.int .i64 (j : Int))).run P w = .ok v w := by
 have hb : (0 : Int) <= (j : Int) /\ (j : Int) < (n : Int) := by omega
 cases hq : P.info? e with
 | none => simp [hq] at hs
 | some i =>
  have hsz : i.size = 1 := by simpa [hq] using hs
  simp [Instr.index, Sem.run_bind, run_underlying hu, asIntOf, hb, sizeOf, typeInfo, hq, hsz, part, isAgg, run_underlying he, hv]
  omega
theorem size_int : (Tryz.prog.info? 3).map (·.size) = some 1 := by kernel_rfl
theorem size_clock : (Tryz.prog.info? 168).map (·.size) = some 16 := by kernel_rfl
def upToP (o j : Nat) (F y : Clk) : Clk := fun q => if o <= q /\ q < o + j then (if F q < y (q - o) then y (q - o) else F q) else F q
theorem upToP_zero (o : Nat) (F y : Clk) : upToP o 0 F y = F := by
 funext q
 unfold upToP
 rw [if_neg (by omega)]
theorem upToP_at (o j : Nat) (F y : Clk) : upToP o j F y (o + j) = F (o + j) := by
 unfold upToP
 rw [if_neg (by omega)]
theorem upToP_next (N o j : Nat) (F y : Clk) : (ints (clkL N (upToP o j F y))).set (o + j) (.int .i64 (if F (o + j) < y j then y j else F (o + j))) = ints (clkL N (upToP o (j + 1) F y)) := by
 rw [clkL_set]
 congr 1
 refine clkL_congr fun k _ => ?_
 unfold upToP
 by_cases hk : k = o + j
 ·subst hk
  have c : o <= o + j /\ o + j < o + (j + 1) := by omega
  rw [if_pos rfl, if_pos c, show o + j - o = j by omega]
 ·rw [if_neg hk]
  by_cases h1 : o <= k /\ k < o + j
  ·have c : o <= k /\ k < o + (j + 1) := by omega
   rw [if_pos h1, if_pos c]
  ·have c : ¬ (o <= k /\ k < o + (j + 1)) := by omega
   rw [if_neg h1, if_neg c]
theorem praise_any (b o N : Nat) (t : TypeId) (F y : Clk) (w : World) (hB : Blk w b t (ints (clkL N F))) (ho : o + 16 <= N) :
  Calls Tryz.prog 67 #[.pointer (some ⟨b, o, none⟩), .agg (ints (clkL 16 y)).toArray] w (RaiseR b t (ints (clkL N (upToP o 16 F y))) w) := by
 have hbl := hB.lt
 obtain ⟨L, hL⟩ : ∃ L, L = (ints (clkL 16 y)).toArray := ⟨_, rfl⟩
 have hLs : L.size = 16 := by rw [hL]; simp [ints, clkL]
 have hLi : ∀ (j : Nat) W, j < 16 -> (Instr.index 168 (.agg L) (.int .i64 (j : Int))).run Tryz.prog W = .ok (.int .i64 (y j)) W := fun j W hj =>
  run_index_ints _ 3 16 .i64 L j _ W Tryz.underlying168 Tryz.underlying3 size_int hj (by rw [hL]; simpa using clkV_get (f := y) hj)
 rw [<- hL]
 have HLi := Lh hLi
 have HB0 := Lh hB
 clear hL hB hLi
 go_enter Tryz.func67, Tryz.ntmps67
 go_upto_region 1 with fail
 refine wp_region_lit ?_
 refine wpList_load_row rfl 168 _ rfl w.heap.size rfl 168 L (0, 0) _ (heap_alloc_new w _) Tryz.underlying168 rfl (by rw [size_clock, hLs]) ?_
 clear hLs
 go_wp2_with fail
 go_loopg [7] 16 (fun gk i wr => ∃ j : Nat, j + gk = 16 /\ i = .int .i64 j /\ Hid (w.grownBy wr (some b)) /\ Hid (Blk wr b t (ints (clkL N (upToP o j F y)))))
 case atStart => exact ⟨0, by omega, rfl, World.grownBy_alloc w _ _, by rw [upToP_zero]; exact HB0.o.alloc _⟩
 case round =>
  obtain ⟨j, hj, rfl, HG, HB⟩ := hrel
  by_cases hlt : j < 16
  ·have c1 : wr.cell? ⟨b, o + j, none⟩ = some (.int .i64 (F (o + j))) := HB.o.cell (by rw [clkV_get (by omega), upToP_at])
   have cf := HB.o.frozen (o + j)
   have hix := HLi.o j wr hlt
   have e1 : (j : Int) < 16 := by omega
   have e0 : (0 : Int) <= j := by omega
   rcases (show F (o + j) < y j ∨ y j <= F (o + j) by omega) with hm | hm
   ·have HM := Lh hm
    go_upto_region 4 with fail
    go_region
    go_wp2_with fail
    go_roundg (gk - 1)
    case measure => omega
    case rel => exact ⟨j + 1, by omega, by go_num, gb_drew (gb_setCell HG.o _ _), by have h5 := HB.o.set_ (o + j) (.int .i64 (if F (o + j) < y j then y j else F (o + j))); rw [upToP_next, if_pos HM.o] at h5; exact h5⟩
   ·have HM := Lh hm
    go_upto_region 4 with fail
    go_region
    go_wp2_with fail
    go_roundg (gk - 1)
    case measure => omega
    case rel => exact ⟨j + 1, by omega, by go_num, gb_drew (gb_setCell HG.o _ _), by have h5 := HB.o.set_ (o + j) (.int .i64 (if F (o + j) < y j then y j else F (o + j))); rw [upToP_next, if_neg (Int.not_lt.2 HM.o)] at h5; exact h5⟩
  ·obtain rfl : j = 16 := by omega
   go_wp2_with fail
   go_end0
   exact ⟨rfl, HG.o, HB.o⟩
end Go.Proofs.YtgjdgapfnfhklaaGreat
namespace Go.Proofs.YtgjdgapfnfhklaaGreat
open Go.RowKit
abbrev RunC (h0 h2 h3 : Value) (A : Option Addr) (n k : Nat) (g : Nat) (W : World) : Prop :=
 W.cell? ⟨g, 0, none⟩ = some h0 /\ W.cell? ⟨g, 1, none⟩ = some (.slice A n k) /\ W.cell? ⟨g, 2, none⟩ = some h2 /\ W.cell? ⟨g, 3, none⟩ = some h3
theorem two_boxes (c : Cfg) (w : World) (h0 h2 h3 : Value) (A : Option Addr) (n k : Nat) (tr : List Acc) (h : RunAt w w.heap.size A n k tr) :
  ∃ w0 : World, w0 = (w.alloc (.cells #[.int .i64 c.threads, .int .i64 c.records, .int .i64 c.hazards, .int .i64 c.retire, .int .i64 c.cache, .int .i64 c.slots, .int .i64 c.buckets] 44)).alloc (.cells #[h0, .slice A n k, h2, h3] 58) /\
   Below w.heap.size w w0 /\ w0.heap.size = w.heap.size + 2 /\ Hid (∀ W, Below w0.heap.size w0 W -> CfgAt c w.heap.size W) /\ Hid (∀ W, Below w0.heap.size w0 W -> RunC h0 h2 h3 A n k (w.heap.size + 1) W) /\ Hid (∀ W, Below w0.heap.size w0 W -> RunAt W w.heap.size A n k tr) := by
 refine ⟨_, rfl, ((Below.refl _ _).alloc (Nat.le_refl _) _).alloc (by simp) _, by simp, fun W hB => cfgAt_of ((Blk.new w 44 (cfgL c)).alloc _) hB, fun W hB => ?_, fun W hB => ?_⟩
 ·have h1 := Blk.new (w.alloc (.cells (cfgL c).toArray 44)) 58 [h0, .slice A n k, h2, h3]
  rw [World.size_alloc] at h1
  have h2' := h1.below hB (by simp)
  exact ⟨h2'.cell rfl, h2'.cell rfl, h2'.cell rfl, h2'.cell rfl⟩
 ·refine (h.keep (((Below.refl _ _).alloc (Nat.le_refl _) (.cells (cfgL c).toArray 44)).alloc (by simp) (.cells #[h0, .slice A n k, h2, h3] 58))).keep (hB.mono ?_)
  simp only [World.size_alloc]
  omega
theorem runErr_cfg {c : Cfg} (h : okC c = false) (tr : List Acc) : runErr c tr = 1 := by unfold runErr; rw [h]; rfl
theorem runErr_acc {c : Cfg} (h : okC c = true) {tr : List Acc} {j : Nat} {x : Acc} (hx : tr[j]? = some x) (hb : accB c x = false) : runErr c tr = 270 := by
 unfold runErr
 rw [if_pos h, if_neg]
 intro ha
 have := List.all_eq_true.1 ha x (List.mem_of_getElem? hx)
 rw [hb] at this
 cases this
theorem runErr_none {c : Cfg} (h : okC c = true) {tr : List Acc} (ha : (tr.take tr.length).all (accB c) = true) : runErr c tr = 0 := by
 unfold runErr
 rw [List.take_length] at ha
 rw [if_pos h, if_pos ha]
theorem all_next {c : Cfg} {tr : List Acc} {j : Nat} {x : Acc} (h : (tr.take j).all (accB c) = true) (hx : tr[j]? = some x) (hb : accB c x = true) : (tr.take (j + 1)).all (accB c) = true := by
 rw [take_snoc hx, List.all_append, h]
 simp [hb]
theorem accB_1 {c : Cfg} {x : Acc} (h : decide (x.thread < 0) = true) : accB c x = false := by
 have h' : decide (0 <= x.thread) = false := by simp at h; simp; omega
 unfold accB; rw [h']; rfl
theorem accB_2 {c : Cfg} {x : Acc} (h : decide (c.threads <= x.thread) = true) : accB c x = false := by
 have h' : decide (x.thread < c.threads) = false := by simp at h; simp; omega
 unfold accB; rw [h']; simp
theorem accB_3 {c : Cfg} {x : Acc} (h : decide (x.kind < 1) = true) : accB c x = false := by
 have h' : decide (1 <= x.kind) = false := by simp at h; simp; omega
 unfold accB; rw [h']; simp
theorem accB_4 {c : Cfg} {x : Acc} (h : decide (3 < x.kind) = true) : accB c x = false := by
 have h' : decide (x.kind <= 3) = false := by simp at h; simp; omega
 unfold accB; rw [h']; simp
theorem accB_5 {c : Cfg} {x : Acc} (h : decide (x.addr < 0) = true) : accB c x = false := by
 have h' : decide (0 <= x.addr) = false := by simp at h; simp; omega
 unfold accB; rw [h']; simp
theorem accB_ok {c : Cfg} {x : Acc} (h1 : decide (x.thread < 0) = false) (h2 : decide (c.threads <= x.thread) = false) (h3 : decide (x.kind < 1) = false) (h4 : decide (3 < x.kind) = false) (h5 : decide (x.addr < 0) = false) : accB c x = true := by
 simp at h1 h2 h3 h4 h5
 simp [accB]
 omega
theorem accB_cases (c : Cfg) (x : Acc) : (decide (x.thread < 0) = true /\ accB c x = false) ∨ (decide (x.thread < 0) = false /\ decide (c.threads <= x.thread) = true /\ accB c x = false) ∨
  (decide (x.thread < 0) = false /\ decide (c.threads <= x.thread) = false /\ decide (x.kind < 1) = true /\ accB c x = false) ∨ (decide (x.thread < 0) = false /\ decide (c.threads <= x.thread) = false /\ decide (x.kind < 1) = false /\ decide (3 < x.kind) = true /\ accB c x = false) ∨
  (decide (x.thread < 0) = false /\ decide (c.threads <= x.thread) = false /\ decide (x.kind < 1) = false /\ decide (3 < x.kind) = false /\ decide (x.addr < 0) = true /\ accB c x = false) ∨
  (decide (x.thread < 0) = false /\ decide (c.threads <= x.thread) = false /\ decide (x.kind < 1) = false /\ decide (3 < x.kind) = false /\ decide (x.addr < 0) = false /\ accB c x = true) := by
 cases h1 : decide (x.thread < 0) with
 | true => exact Or.inl ⟨rfl, accB_1 h1⟩
 | false =>
  cases h2 : decide (c.threads <= x.thread) with
  | true => exact Or.inr (Or.inl ⟨rfl, rfl, accB_2 h2⟩)
  | false =>
   cases h3 : decide (x.kind < 1) with
   | true => exact Or.inr (Or.inr (Or.inl ⟨rfl, rfl, rfl, accB_3 h3⟩))
   | false =>
    cases h4 : decide (3 < x.kind) with
    | true => exact Or.inr (Or.inr (Or.inr (Or.inl ⟨rfl, rfl, rfl, rfl, accB_4 h4⟩)))
    | false =>
     cases h5 : decide (x.addr < 0) with
     | true => exact Or.inr (Or.inr (Or.inr (Or.inr (Or.inl ⟨rfl, rfl, rfl, rfl, rfl, accB_5 h5⟩))))
     | false => exact Or.inr (Or.inr (Or.inr (Or.inr (Or.inr ⟨rfl, rfl, rfl, rfl, rfl, accB_ok h1 h2 h3 h4 h5⟩))))
end Go.Proofs.YtgjdgapfnfhklaaGreat
