/-
The words of memory that all later texts use: a slice that r
-/
import Derived.WalkKit
import Derived.WalkSpells
import Derived.Lib.Hide
import Derived.Deep.Draws
import Derived.Deep.OwnRows
import Derived.Test.YtgjdgapfnfhklaaGreatProg
import Derived.Deep.LoopGhost
import Derived.Deep.Light
import Derived.Laws.Tables
import Derived.Deep.WholeRow
import Derived.Laws.CopyOwn
import Derived.Test.YtgjdgapfnfhklaaGreatRows
import Derived.ProofKit
import Derived.SizedLaws
set_option linter.unusedSimpArgs false
set_option linter.unusedVariables false
set_option maxRecDepth 100000
set_option maxHeartbeats 8000000
namespace Go.RowKit
theorem Hid.o {p : Prop} (h : Hid p) : p := h.out
end Go.RowKit
namespace Go.Proofs.YtgjdgapfnfhklaaGreat
open Go.RowKit
theorem Lh {p : Prop} (h : p) : Hid p := h
def Sl (w : World) (B sz : Nat) (A : Option Addr) (n : Nat) (xs : List Value) : Prop :=
 xs.length = n * sz /\ (0 < n -> ∃ b o, A = some ⟨b, o, none⟩ /\ b < B /\ ∀ j u, xs[j]? = some u -> w.cell? ⟨b, o + j, none⟩ = some u)
section
variable {w w' : World} {B B' sz n : Nat} {A : Option Addr} {xs : List Value}
theorem Sl.keep (h : Sl w B sz A n xs) (hk : ∀ p : Addr, p.block < B -> w'.cell? p = w.cell? p) : Sl w' B sz A n xs :=
 ⟨h.1, fun hn => by
  obtain ⟨b, o, e, hb, hc⟩ := h.2 hn
  exact ⟨b, o, e, hb, fun j u hu => (hk _ hb).trans (hc j u hu)⟩⟩
theorem Sl.up (h : Sl w B sz A n xs) (hB : B <= B') : Sl w B' sz A n xs :=
 ⟨h.1, fun hn => by
  obtain ⟨b, o, e, hb, hc⟩ := h.2 hn
  exact ⟨b, o, e, by omega, hc⟩⟩
theorem Sl.below (h : Sl w B sz A n xs) (hb : Below B w w') : Sl w' B sz A n xs := h.keep fun _ hp => hb.cell hp
theorem Sl.nil : Sl w B sz A 0 [] := ⟨by simp, fun h => absurd h (by omega)⟩
end
end Go.Proofs.YtgjdgapfnfhklaaGreat
namespace Go.Proofs.YtgjdgapfnfhklaaGreat
open Go.RowKit
def Blk (w : World) (g : Nat) (t : TypeId) (cs : List Value) : Prop := w.heap[g]? = some (.cells cs.toArray t (0, 0))
section
variable {w w' : World} {g : Nat} {t : TypeId} {cs : List Value}
theorem Blk.lt (h : Blk w g t cs) : g < w.heap.size := (Array.getElem?_eq_some_iff.1 h).1
theorem Blk.cell (h : Blk w g t cs) {i : Nat} {v : Value} (hv : cs[i]? = some v) : w.cell? ⟨g, i, none⟩ = some v := by
 unfold Blk at h
 simp [World.cell?, h, hv]
theorem Blk.frozen (h : Blk w g t cs) (i : Nat) : w.frozen? ⟨g, i, none⟩ = false := by
 unfold Blk at h
 simp [World.frozen?, h]
theorem Blk.new (w : World) (t : TypeId) (cs : List Value) : Blk (w.alloc (.cells cs.toArray t)) w.heap.size t cs := heap_alloc_new w _
theorem Blk.kept (h : Blk w g t cs) (hk : w'.heap[g]? = w.heap[g]?) : Blk w' g t cs := hk.trans h
theorem Blk.alloc (h : Blk w g t cs) (o : Obj) : Blk (w.alloc o) g t cs := h.kept (Below.heap_alloc w o g h.lt)
theorem Blk.below {B : Nat} (h : Blk w g t cs) (hb : Below B w w') (hg : g < B) : Blk w' g t cs := h.kept (hb.block g hg)
theorem Blk.far (h : Blk w g t cs) {p : Addr} (hp : g ≠ p.block) (u : Value) : Blk (w.setCell p u) g t cs := h.kept (Below.heap_setCell w p u g hp)
theorem Blk.set_ (h : Blk w g t cs) (i : Nat) (u : Value) : Blk (w.setCell ⟨g, i, none⟩ u) g t (cs.set i u) := by
 unfold Blk at h ⊢
 simp [World.setCell, Array.getElem?_modify, h]
theorem Blk.grown {row : Option Nat} (h : Blk w g t cs) (hb : w.grownBy w' row) (hg : some g ≠ row) : Blk w' g t cs := h.kept (hb.block g h.lt hg)
theorem Blk.sl (h : Blk w g t cs) {sz n : Nat} (hl : cs.length = n * sz) : Sl w w.heap.size sz (some ⟨g, 0, none⟩) n cs :=
 ⟨hl, fun _ => ⟨g, 0, rfl, h.lt, fun j u hu => by rw [Nat.zero_add]; exact h.cell hu⟩⟩
end
theorem Sl.of_own {w : World} {base : Nat} {e : TypeId} {size n c : Nat} {A : Option Addr} {xs : List Value} (h : w.ownsRow base e size (.slice A n c) n xs) : Sl w w.heap.size size A n xs := by
 refine ⟨h.1, fun hn => ?_⟩
 have hlt := h.lt
 rcases h.2 with ⟨_, h0⟩ | ⟨g, cap, cur, hv, _⟩
 ·omega
 ·injection hv with hA
  subst hA
  refine ⟨g, 0, rfl, (hlt g rfl).2, fun j u hu => ?_⟩
  have := h.cells (g := g) rfl j u hu
  unfold Addr.add at this
  split at this
  ·rename_i hj; subst hj; exact this
  ·exact this
theorem madeCells_one (z : Value) (n : Nat) : madeCells #[z] n = (List.replicate n z).toArray := by
 apply Array.ext
 ·simp [madeCells]
 ·intro i h1 h2
  simp only [madeCells, Array.getElem_map, List.getElem_toArray, List.getElem_replicate]
  simp [Nat.mod_one]
theorem _root_.Go.RowKit.Below.drewN {B : Nat} {a w : World} (h : Below B a w) (n : Nat) : Below B a (w.drewN n) := ⟨h.os, h.tape, h.output, h.size, h.block⟩
theorem _root_.Go.World.ownsRow.below {w w' : World} {base : Nat} {e : TypeId} {size n : Nat} {v : Value} {xs : List Value} (h : w.ownsRow base e size v n xs) (hb : Below w.heap.size w w') : w'.ownsRow base e size v n xs :=
 h.kept (row := none) ⟨hb.os, hb.tape, hb.output, hb.size, fun k hk _ => hb.block k hk⟩ (by cases hv : v.ownBlock <;> simp)
theorem drop_cons {α : Type} {l : List α} {j : Nat} {x : α} (h : l[j]? = some x) : l.drop j = x :: l.drop (j + 1) := by
 obtain ⟨hj, rfl⟩ := List.getElem?_eq_some_iff.1 h
 exact List.drop_eq_getElem_cons hj
theorem take_snoc {α : Type} {l : List α} {j : Nat} {x : α} (h : l[j]? = some x) : l.take (j + 1) = l.take j ++ [x] := by
 obtain ⟨hj, rfl⟩ := List.getElem?_eq_some_iff.1 h
 rw [List.take_add_one, List.getElem?_eq_getElem hj]; rfl
theorem at_lt {α : Type} {l : List α} {j : Nat} (h : j < l.length) : ∃ x, l[j]? = some x := ⟨_, List.getElem?_eq_getElem h⟩
end Go.Proofs.YtgjdgapfnfhklaaGreat
namespace Go.Proofs.YtgjdgapfnfhklaaGreat
open Go.RowKit
structure Cfg where
 threads : Int
 records : Int
 hazards : Int
 retire : Int
 cache : Int
 slots : Int
 buckets : Int
abbrev cfgL (c : Cfg) : List Value := [.int .i64 c.threads, .int .i64 c.records, .int .i64 c.hazards, .int .i64 c.retire, .int .i64 c.cache, .int .i64 c.slots, .int .i64 c.buckets]
abbrev cfgV (c : Cfg) : Value := .agg #[.int .i64 c.threads, .int .i64 c.records, .int .i64 c.hazards, .int .i64 c.retire, .int .i64 c.cache, .int .i64 c.slots, .int .i64 c.buckets]
def limits (c : Cfg) : List (Int × Int × Int) := [(c.threads, 1, 16), (c.records, 1, 16), (c.hazards, 3, 8), (c.retire, 1, 1024), (c.cache, 0, 64), (c.slots, 1, 1024), (c.buckets, 1, 64)]
def inL (x : Int × Int × Int) : Bool := decide (x.2.1 <= x.1) && decide (x.1 <= x.2.2)
def okC (c : Cfg) : Bool := (limits c).all inL
structure OkC (c : Cfg) : Prop where
 t1 : 1 <= c.threads
 t2 : c.threads <= 16
 r1 : 1 <= c.records
 r2 : c.records <= 16
 h1 : 3 <= c.hazards
 h2 : c.hazards <= 8
 e1 : 1 <= c.retire
 e2 : c.retire <= 1024
 a1 : 0 <= c.cache
 a2 : c.cache <= 64
 s1 : 1 <= c.slots
 s2 : c.slots <= 1024
 b1 : 1 <= c.buckets
 b2 : c.buckets <= 64
theorem okC_iff (c : Cfg) : okC c = true ↔ OkC c := by
 unfold okC limits inL
 simp only [List.all_cons, List.all_nil, Bool.and_true, Bool.and_eq_true, decide_eq_true_eq]
 constructor
 ·rintro ⟨⟨a, b⟩, ⟨d, e⟩, ⟨f, g⟩, ⟨h, i⟩, ⟨j, k⟩, ⟨l, m⟩, n, o⟩
  exact ⟨a, b, d, e, f, g, h, i, j, k, l, m, n, o⟩
 ·rintro ⟨a, b, d, e, f, g, h, i, j, k, l, m, n, o⟩
  exact ⟨⟨a, b⟩, ⟨d, e⟩, ⟨f, g⟩, ⟨h, i⟩, ⟨j, k⟩, ⟨l, m⟩, n, o⟩
def manyF (c : Cfg) (r : Int) : Int :=
 if r = 7 then c.buckets else if r = 8 then c.records else if r = 9 then c.records * c.hazards else if r = 10 ∨ r = 11 ∨ r = 12 ∨ r = 13 then c.slots else 1
def sumF (c : Cfg) : Nat -> Int
 | 0 => 0
 | n + 1 => sumF c n + manyF c (n + 1 : Nat)
theorem manyF_pos {c : Cfg} (h : OkC c) (r : Int) : 1 <= manyF c r /\ manyF c r <= 1024 := by
 obtain ⟨a, b, d, e, f, g, _, _, _, _, l, m, n, o⟩ := h
 have hp : 1 <= c.records * c.hazards /\ c.records * c.hazards <= 128 := by
  have h1 : 1 * c.hazards <= c.records * c.hazards := Int.mul_le_mul_of_nonneg_right d (by omega)
  have h2 : c.records * c.hazards <= 16 * c.hazards := Int.mul_le_mul_of_nonneg_right e (by omega)
  omega
 unfold manyF
 repeat' split
 all_goals omega
theorem sumF_le {c : Cfg} (h : OkC c) (n : Nat) : (n : Int) <= sumF c n /\ sumF c n <= n * 1024 := by
 induction n with
 | zero => simp [sumF]
 | succ n ih =>
  have := manyF_pos h (n + 1 : Nat)
  unfold sumF
  omega
theorem sumF_mono {c : Cfg} (h : OkC c) {m n : Nat} (hm : m <= n) : sumF c m <= sumF c n := by
 induction n with
 | zero => obtain rfl : m = 0 := by omega
           exact Int.le_refl _
 | succ n ih =>
  rcases Nat.lt_or_ge m (n + 1) with hlt | hge
  ·have := ih (by omega)
   have := manyF_pos h (n + 1 : Nat)
   show sumF c m <= sumF c n + manyF c (n + 1 : Nat)
   omega
  ·obtain rfl : m = n + 1 := by omega
   exact Int.le_refl _
def plainB (c : Cfg) (a : Int) : Bool := decide (sumF c 10 <= a) && decide (a < sumF c 10 + 2 * c.slots)
theorem sumF_12 (c : Cfg) : sumF c 12 = sumF c 10 + 2 * c.slots := by
 show sumF c 10 + manyF c (11 : Nat) + manyF c (12 : Nat) = _
 have h1 : manyF c (11 : Nat) = c.slots := by unfold manyF; simp
 have h2 : manyF c (12 : Nat) = c.slots := by unfold manyF; simp
 rw [h1, h2]
 omega
end Go.Proofs.YtgjdgapfnfhklaaGreat
namespace Go.Proofs.YtgjdgapfnfhklaaGreat
open Go.RowKit
theorem limits_len (c : Cfg) : (limits c).length = 7 := rfl
theorem okC_false {c : Cfg} {j : Nat} {x : Int × Int × Int} (h : (limits c)[j]? = some x) (hx : inL x = false) : okC c = false := by
 unfold okC
 rw [List.all_eq_false]
 exact ⟨x, List.mem_of_getElem? h, by simp [hx]⟩
theorem okC_true {c : Cfg} (h : ((limits c).take 7).all inL = true) : okC c = true := by
 unfold okC
 rwa [List.take_of_length_le (by rw [limits_len]; omega)] at h
def CheckR (c : Cfg) (w : World) (e : Ending) (w' : World) : Prop := e = .returned (.int .i64 (if okC c then 0 else 1)) /\ Below w.heap.size w w'
theorem checkR_no {c : Cfg} {w w' : World} (h : okC c = false) (hb : Below w.heap.size w w') : CheckR c w (.returned (.int .i64 1)) w' := ⟨by rw [h]; rfl, hb⟩
theorem take_all {c : Cfg} {j : Nat} {x : Int × Int × Int} (h : ((limits c).take j).all inL = true) (hx : (limits c)[j]? = some x) (h1 : inL x = true) : ((limits c).take (j + 1)).all inL = true := by
 rw [take_snoc hx, List.all_append, h]
 simp [h1]
def limV (c : Cfg) : Array Value := #[.int .i64 c.threads, .int .i64 1, .int .i64 16, .int .i64 c.records, .int .i64 1, .int .i64 16, .int .i64 c.hazards, .int .i64 3, .int .i64 8, .int .i64 c.retire, .int .i64 1, .int .i64 1024, .int .i64 c.cache, .int .i64 0, .int .i64 64, .int .i64 c.slots, .int .i64 1, .int .i64 1024, .int .i64 c.buckets, .int .i64 1, .int .i64 64]
theorem size261 : (Tryz.prog.info? 207).map (·.size) = some 21 := by kernel_rfl
theorem limV_one (c : Cfg) : (limV c).all (·.oneCell') = true := by simp [limV, Value.oneCell']
def limZ : Array Value := #[.int .i64 0, .int .i64 0, .int .i64 0, .int .i64 0, .int .i64 0, .int .i64 0, .int .i64 0, .int .i64 0, .int .i64 0, .int .i64 0, .int .i64 0, .int .i64 0, .int .i64 0, .int .i64 0, .int .i64 0, .int .i64 0, .int .i64 0, .int .i64 0, .int .i64 0, .int .i64 0, .int .i64 0]
theorem lim_store (c : Cfg) (w : World) (o : Obj) : (storeCells ⟨w.heap.size + 1, 0, none⟩ (limV c).toList).run Tryz.prog ((w.alloc o).alloc (.cells limZ 207)) = .ok () ((w.alloc o).alloc (.cells (limV c) 207)) := by
 have := run_storeCells_new (P := Tryz.prog) (w.alloc o) 207 limZ (limV c) (by rw [size261]; rfl) rfl (limV_one c)
 rwa [World.size_alloc] at this
theorem lim_new (w : World) (o : Obj) (cs : Array Value) : ((w.alloc o).alloc (.cells cs 207)).heap[w.heap.size + 1]? = some (.cells cs 207 (0, 0)) := by
 have := heap_alloc_last (w.alloc o) (.cells cs 207)
 rwa [World.size_alloc] at this
theorem lim_at0 (c : Cfg) (w : World) : (Instr.index 207 (.agg (limV c)) (.int .i64 (0 : Int))).run Tryz.prog w = .ok (.agg #[.int .i64 c.threads, .int .i64 1, .int .i64 16]) w := by kernel_rfl
theorem lim_at1 (c : Cfg) (w : World) : (Instr.index 207 (.agg (limV c)) (.int .i64 (1 : Int))).run Tryz.prog w = .ok (.agg #[.int .i64 c.records, .int .i64 1, .int .i64 16]) w := by kernel_rfl
theorem lim_at2 (c : Cfg) (w : World) : (Instr.index 207 (.agg (limV c)) (.int .i64 (2 : Int))).run Tryz.prog w = .ok (.agg #[.int .i64 c.hazards, .int .i64 3, .int .i64 8]) w := by kernel_rfl
theorem lim_at3 (c : Cfg) (w : World) : (Instr.index 207 (.agg (limV c)) (.int .i64 (3 : Int))).run Tryz.prog w = .ok (.agg #[.int .i64 c.retire, .int .i64 1, .int .i64 1024]) w := by kernel_rfl
theorem lim_at4 (c : Cfg) (w : World) : (Instr.index 207 (.agg (limV c)) (.int .i64 (4 : Int))).run Tryz.prog w = .ok (.agg #[.int .i64 c.cache, .int .i64 0, .int .i64 64]) w := by kernel_rfl
theorem lim_at5 (c : Cfg) (w : World) : (Instr.index 207 (.agg (limV c)) (.int .i64 (5 : Int))).run Tryz.prog w = .ok (.agg #[.int .i64 c.slots, .int .i64 1, .int .i64 1024]) w := by kernel_rfl
theorem lim_at6 (c : Cfg) (w : World) : (Instr.index 207 (.agg (limV c)) (.int .i64 (6 : Int))).run Tryz.prog w = .ok (.agg #[.int .i64 c.buckets, .int .i64 1, .int .i64 64]) w := by kernel_rfl
theorem built261 (a b c d e f g : Int) : Tryz.prog.built 207 [(0, .agg #[.int .i64 a, .int .i64 1, .int .i64 16]), (1, .agg #[.int .i64 b, .int .i64 1, .int .i64 16]), (2, .agg #[.int .i64 c, .int .i64 3, .int .i64 8]), (3, .agg #[.int .i64 d, .int .i64 1, .int .i64 1024]), (4, .agg #[.int .i64 e, .int .i64 0, .int .i64 64]), (5, .agg #[.int .i64 f, .int .i64 1, .int .i64 1024]), (6, .agg #[.int .i64 g, .int .i64 1, .int .i64 64])] = some #[.int .i64 a, .int .i64 1, .int .i64 16, .int .i64 b, .int .i64 1, .int .i64 16, .int .i64 c, .int .i64 3, .int .i64 8, .int .i64 d, .int .i64 1, .int .i64 1024, .int .i64 e, .int .i64 0, .int .i64 64, .int .i64 f, .int .i64 1, .int .i64 1024, .int .i64 g, .int .i64 1, .int .i64 64] := by kernel_rfl
theorem wpList_builtTo {P : Program} {ops : Array Oper} {rest : List Oper} {o : Oper} {a : Act} {w : World} {Q : Exit -> Act -> World -> Prop} (hg : o.guard = none) (t : TypeId) (parts : Array (Nat × Operand)) (ho : o.op = .build t parts)
  (cells : Array Value) (hb : P.built t (parts.map fun (i, x) => (i, a.eval x)).toList = some cells) (h : wpList P ops Q rest (a.put o.dst (.agg cells)) w) : wpList P ops Q (o :: rest) a w := by
 refine wpList_build hg t parts ho (by rw [hb]; rfl) ?_
 rw [hb]
 exact h
theorem check_any (c : Cfg) (w : World) : Calls Tryz.prog 66 #[cfgV c] w (CheckR c w) := by
 have hst := lim_store c w (.cells #[.int .i64 c.threads, .int .i64 c.records, .int .i64 c.hazards, .int .i64 c.retire, .int .i64 c.cache, .int .i64 c.slots, .int .i64 c.buckets] 44)
 have hls : (limV c).size = 21 := rfl
 unfold limZ at hst
 obtain ⟨L, hL⟩ : ∃ L, L = limV c := ⟨_, rfl⟩
 rw [<- hL] at hst hls
 have HST := Lh hst
 clear hst
 have HL := Lh hL
 clear hL
 go_enter Tryz.func66, Tryz.ntmps66
 go_upto_region 1 with fail
 go_wp2_with (refine wpList_builtTo rfl 207 _ rfl L ?_ ?_; · (rw [Array.toList_map, HL.o]; exact built261 c.threads c.records c.hazards c.retire c.cache c.slots c.buckets))
 go_wp2_with fail
 rw [HST.o]
 simp only [Result.andThen]
 rw [Oper.upon_skip]
 go_upto_region 2 with fail
 refine wp_region_lit ?_
 refine wpList_load_row rfl 207 _ rfl (w.heap.size + 1) rfl 207 L (0, 0) _ (lim_new _ _ _) Tryz.underlying207 rfl (by rw [size261, hls]) ?_
 clear HST hls
 go_wp2_with fail
 go_loopg [29] 7 (fun g i wr => ∃ j : Nat, j + g = 7 /\ i = .int .i64 j /\ Below w.heap.size w wr /\ Hid (((limits c).take j).all inL = true))
 case atStart => exact ⟨0, by omega, rfl, ((Below.refl _ _).alloc (Nat.le_refl _) _).alloc (by simp) _, rfl⟩
 case round =>
  obtain ⟨j, hj, rfl, hbr, HT⟩ := hrel
  have hz : w.heap.size <= wr.heap.size := hbr.size
  by_cases hlt : j < 7
  ·have hjs : j = 0 ∨ j = 1 ∨ j = 2 ∨ j = 3 ∨ j = 4 ∨ j = 5 ∨ j = 6 := by omega
   rcases hjs with rfl | rfl | rfl | rfl | rfl | rfl | rfl
   ·have hix := lim_at0 c wr
    rw [<- HL.o] at hix
    cases h1 : decide (c.threads < 1) with
    | true =>
     have hb : okC c = false := okC_false (j := 0) rfl (by unfold inL; simp at h1; simp; omega)
     have HB := Lh hb
     clear hb
     go_wp2_with fail
     go_ret
     exact checkR_no HB.o (hbr.alloc hz _)
    | false =>
     cases h2 : decide (16 < c.threads) with
     | true =>
      have hb : okC c = false := okC_false (j := 0) rfl (by unfold inL; simp at h2; simp; omega)
      have HB := Lh hb
      clear hb
      go_wp2_with fail
      go_ret
      exact checkR_no HB.o (hbr.alloc hz _)
     | false =>
      have hx : inL (c.threads, 1, 16) = true := by unfold inL; simp at h1 h2; simp; omega
      have HX := Lh hx
      clear hx
      go_wp2_with fail
      go_roundg (gk - 1)
      case measure => omega
      case rel => exact ⟨1, by omega, by go_num, hbr.alloc hz _, take_all HT.o rfl HX.o⟩
   ·have hix := lim_at1 c wr
    rw [<- HL.o] at hix
    cases h1 : decide (c.records < 1) with
    | true =>
     have hb : okC c = false := okC_false (j := 1) rfl (by unfold inL; simp at h1; simp; omega)
     have HB := Lh hb
     clear hb
     go_wp2_with fail
     go_ret
     exact checkR_no HB.o (hbr.alloc hz _)
    | false =>
     cases h2 : decide (16 < c.records) with
     | true =>
      have hb : okC c = false := okC_false (j := 1) rfl (by unfold inL; simp at h2; simp; omega)
      have HB := Lh hb
      clear hb
      go_wp2_with fail
      go_ret
      exact checkR_no HB.o (hbr.alloc hz _)
     | false =>
      have hx : inL (c.records, 1, 16) = true := by unfold inL; simp at h1 h2; simp; omega
      have HX := Lh hx
      clear hx
      go_wp2_with fail
      go_roundg (gk - 1)
      case measure => omega
      case rel => exact ⟨2, by omega, by go_num, hbr.alloc hz _, take_all HT.o rfl HX.o⟩
   ·have hix := lim_at2 c wr
    rw [<- HL.o] at hix
    cases h1 : decide (c.hazards < 3) with
    | true =>
     have hb : okC c = false := okC_false (j := 2) rfl (by unfold inL; simp at h1; simp; omega)
     have HB := Lh hb
     clear hb
     go_wp2_with fail
     go_ret
     exact checkR_no HB.o (hbr.alloc hz _)
    | false =>
     cases h2 : decide (8 < c.hazards) with
     | true =>
      have hb : okC c = false := okC_false (j := 2) rfl (by unfold inL; simp at h2; simp; omega)
      have HB := Lh hb
      clear hb
      go_wp2_with fail
      go_ret
      exact checkR_no HB.o (hbr.alloc hz _)
     | false =>
      have hx : inL (c.hazards, 3, 8) = true := by unfold inL; simp at h1 h2; simp; omega
      have HX := Lh hx
      clear hx
      go_wp2_with fail
      go_roundg (gk - 1)
      case measure => omega
      case rel => exact ⟨3, by omega, by go_num, hbr.alloc hz _, take_all HT.o rfl HX.o⟩
   ·have hix := lim_at3 c wr
    rw [<- HL.o] at hix
    cases h1 : decide (c.retire < 1) with
    | true =>
     have hb : okC c = false := okC_false (j := 3) rfl (by unfold inL; simp at h1; simp; omega)
     have HB := Lh hb
     clear hb
     go_wp2_with fail
     go_ret
     exact checkR_no HB.o (hbr.alloc hz _)
    | false =>
     cases h2 : decide (1024 < c.retire) with
     | true =>
      have hb : okC c = false := okC_false (j := 3) rfl (by unfold inL; simp at h2; simp; omega)
      have HB := Lh hb
      clear hb
      go_wp2_with fail
      go_ret
      exact checkR_no HB.o (hbr.alloc hz _)
     | false =>
      have hx : inL (c.retire, 1, 1024) = true := by unfold inL; simp at h1 h2; simp; omega
      have HX := Lh hx
      clear hx
      go_wp2_with fail
      go_roundg (gk - 1)
      case measure => omega
      case rel => exact ⟨4, by omega, by go_num, hbr.alloc hz _, take_all HT.o rfl HX.o⟩
   ·have hix := lim_at4 c wr
    rw [<- HL.o] at hix
    cases h1 : decide (c.cache < 0) with
    | true =>
     have hb : okC c = false := okC_false (j := 4) rfl (by unfold inL; simp at h1; simp; omega)
     have HB := Lh hb
     clear hb
     go_wp2_with fail
     go_ret
     exact checkR_no HB.o (hbr.alloc hz _)
    | false =>
     cases h2 : decide (64 < c.cache) with
     | true =>
      have hb : okC c = false := okC_false (j := 4) rfl (by unfold inL; simp at h2; simp; omega)
      have HB := Lh hb
      clear hb
      go_wp2_with fail
      go_ret
      exact checkR_no HB.o (hbr.alloc hz _)
     | false =>
      have hx : inL (c.cache, 0, 64) = true := by unfold inL; simp at h1 h2; simp; omega
      have HX := Lh hx
      clear hx
      go_wp2_with fail
      go_roundg (gk - 1)
      case measure => omega
      case rel => exact ⟨5, by omega, by go_num, hbr.alloc hz _, take_all HT.o rfl HX.o⟩
   ·have hix := lim_at5 c wr
    rw [<- HL.o] at hix
    cases h1 : decide (c.slots < 1) with
    | true =>
     have hb : okC c = false := okC_false (j := 5) rfl (by unfold inL; simp at h1; simp; omega)
     have HB := Lh hb
     clear hb
     go_wp2_with fail
     go_ret
     exact checkR_no HB.o (hbr.alloc hz _)
    | false =>
     cases h2 : decide (1024 < c.slots) with
     | true =>
      have hb : okC c = false := okC_false (j := 5) rfl (by unfold inL; simp at h2; simp; omega)
      have HB := Lh hb
      clear hb
      go_wp2_with fail
      go_ret
      exact checkR_no HB.o (hbr.alloc hz _)
     | false =>
      have hx : inL (c.slots, 1, 1024) = true := by unfold inL; simp at h1 h2; simp; omega
      have HX := Lh hx
      clear hx
      go_wp2_with fail
      go_roundg (gk - 1)
      case measure => omega
      case rel => exact ⟨6, by omega, by go_num, hbr.alloc hz _, take_all HT.o rfl HX.o⟩
   ·have hix := lim_at6 c wr
    rw [<- HL.o] at hix
    cases h1 : decide (c.buckets < 1) with
    | true =>
     have hb : okC c = false := okC_false (j := 6) rfl (by unfold inL; simp at h1; simp; omega)
     have HB := Lh hb
     clear hb
     go_wp2_with fail
     go_ret
     exact checkR_no HB.o (hbr.alloc hz _)
    | false =>
     cases h2 : decide (64 < c.buckets) with
     | true =>
      have hb : okC c = false := okC_false (j := 6) rfl (by unfold inL; simp at h2; simp; omega)
      have HB := Lh hb
      clear hb
      go_wp2_with fail
      go_ret
      exact checkR_no HB.o (hbr.alloc hz _)
     | false =>
      have hx : inL (c.buckets, 1, 64) = true := by unfold inL; simp at h1 h2; simp; omega
      have HX := Lh hx
      clear hx
      go_wp2_with fail
      go_roundg (gk - 1)
      case measure => omega
      case rel => exact ⟨7, by omega, by go_num, hbr.alloc hz _, take_all HT.o rfl HX.o⟩
  ·obtain rfl : j = 7 := by omega
   have hok := okC_true HT.o
   go_wp2_with fail
   go_ret
   refine ⟨?_, hbr⟩
   rw [hok]
   rfl
end Go.Proofs.YtgjdgapfnfhklaaGreat
namespace Go.Proofs.YtgjdgapfnfhklaaGreat
open Go.RowKit
end Go.Proofs.YtgjdgapfnfhklaaGreat
namespace Go.Proofs.YtgjdgapfnfhklaaGreat
open Go.RowKit
theorem run_copy_rowq {P : Program} (w : World) (dT sT ty elem : TypeId) (g o dLen dCap : Nat) (a : Addr) (sLen sCap : Nat) (cur : Array Value) (t : TypeId) (cs : List Value) (q m : Nat)
  (hu : P.underlying dT = some (.slice elem)) (hs : (P.info? elem).map (·.size) = some q)
  (hg : w.heap[g]? = some (.cells cur t (0, 0))) (hm : Nat.min sLen dLen = m) (hn : cs.length = m * q)
  (hsrc : ∀ j v, cs[j]? = some v -> w.cell? (a.add j) = some v) (hfit : o + cs.length <= cur.size) (h1 : ∀ v ∈ cs, v.oneCell' = true) :
  (Builtin.copy_ #[dT, sT] ty #[.slice (some ⟨g, o, none⟩) dLen dCap, .slice (some a) sLen sCap]).run P w =
   .ok (goInt m) (w.setRow g (cur.toList.take o ++ cs ++ cur.toList.drop (o + cs.length)).toArray) := by
 have hl := run_loadCells_list (P := P) w a cs hsrc
 have hst := run_storeCells_at P g o t cs 0 cur w hg (by simpa using hfit) h1
 cases hq : P.info? elem with
 | none => simp [hq] at hs
 | some i =>
  have hi : i.size = q := by simpa [hq] using hs
  rw [hn] at hl
  simp [Builtin.copy_, run_underlying hu, Builtin.lenOf, Builtin.firstCells, sizeOf, typeInfo, hq, hi, hm, hl, hst]
theorem step_copy_q {P : Program} {ops : Array Oper} {o : Oper} {a : Act} {w : World} {K : Act -> World -> Prop} {Q : Exit -> Act -> World -> Prop} {E : Prop} (hgd : o.guard = none) (d s : Operand) (dT sT : TypeId)
  (ho : o.op = .call { callee := .builtin .copy, args := #[d, s], argTypes := #[dT, sT] }) (elem : TypeId) (q m : Nat) (hu : P.underlying dT = some (.slice elem)) (hsz : (P.info? elem).map (·.size) = some q)
  (g off dLen dCap : Nat) (ad : Addr) (sLen sCap : Nat) (hd : a.eval d = .slice (some ⟨g, off, none⟩) dLen dCap) (hs : a.eval s = .slice (some ad) sLen sCap)
  (cur : List Value) (t : TypeId) (hg : w.heap[g]? = some (.cells cur.toArray t (0, 0))) (cs : List Value) (hm : Nat.min sLen dLen = m) (hn : cs.length = m * q)
  (hsrc : ∀ j v, cs[j]? = some v -> w.cell? (ad.add j) = some v) (hfit : off + cs.length <= cur.length) (h1 : ∀ v ∈ cs, v.oneCell' = true)
  (h : ∀ w', RowKit.Hid (w'.heap[g]? = some (.cells (splice cur off cs).toArray t (0, 0))) -> (∀ k, k ≠ g -> w'.heap[k]? = w.heap[k]?) -> w'.heap.size = w.heap.size -> w'.os = w.os /\ w'.tape = w.tape /\ w'.output = w.output -> K (a.put o.dst (goInt m)) w') :
  if Region.wanted o (yielded ops a.tmps) = true then Oper.wp P o a w K Q else E := by
 have hw : Region.wanted o (yielded ops a.tmps) = true := by simp [Region.wanted, hgd]
 rw [if_pos hw]
 have hrun := run_copy_rowq (P := P) w dT sT o.type elem g off dLen dCap ad sLen sCap cur.toArray t cs q m hu hsz hg hm hn hsrc (by simpa using hfit) h1
 unfold Oper.wp
 simp [execOp, ho, resolve, invoke, builtin, hd, hs, hrun, Result.andThen]
 refine h _ (show _ = _ by simpa [splice] using setRow_heap w g _ _ t _ hg) (fun k hk => setRow_other w g k _ hk) (by simp [World.setRow]) ⟨rfl, rfl, rfl⟩
end Go.Proofs.YtgjdgapfnfhklaaGreat
namespace Go.Proofs.YtgjdgapfnfhklaaGreat
open Go.ChangeShapes Go.WideShapes Go.ChangeAt Go.RowKit
theorem own : ownKnob Tryz.prog.godebug = none := by kernel_rfl
theorem laidOut : laidOutB Tryz.prog = true := by kernel_rfl
theorem trodAll_later {H : Type} {enc : TypeId × Value -> H} {P : Program} (hl : laidOutB P = true) {W W' : World} (hb : Below W.heap.size W W') :
  ∀ {ts : List TypeId} {vs : List Value} {ds : List (DataW H)} {ps : List MemPlace}, (ts.all fun t => P.readableRec t && decide (t < P.types.size)) = true ->
   DataW.TrodAll enc P W 0 (fun _ => true) true ts vs ds ps -> (∀ x ∈ ps, x.block < W.heap.size) -> DataW.TrodAll enc P W' 0 (fun b => decide (b < W.heap.size)) true ts vs ds ps
 | [], [], [], _, _, h, _ => h
 | t :: ts, v :: vs, d :: ds, ps, hr, h, hlt => by
  obtain ⟨p, q, h0, h1, rfl⟩ := h
  simp only [List.all_cons, Bool.and_eq_true, decide_eq_true_eq] at hr
  exact ⟨p, q, Below.trod hl hr.1.1 hr.1.2 h0 hb (fun x hx => hlt x (by simp [hx])), trodAll_later hl hb hr.2 h1 (fun x hx => hlt x (by simp [hx])), rfl⟩
 | [], _ :: _, _, _, _, h, _ => h.elim
 | [], [], _ :: _, _, _, h, _ => h.elim
 | _ :: _, [], _, _, _, h, _ => h.elim
 | _ :: _, _ :: _, [], _, _, h, _ => h.elim
theorem law_post {H : Type} {enc : TypeId × Value -> H} {f : Func} {s : ChangeSpec} {W W' : World} {args : Array Value} {ds gs : List (DataW H)} {before : List MemPlace} {t : TypeId}
  (hvars : s.vars = []) (hres : f.resultTypes = #[t]) (ht : Tryz.prog.underlying t = some .bool) (hr : (f.params.toList.all fun t => Tryz.prog.readableRec t && decide (t < Tryz.prog.types.size)) = true)
  (hW : DataW.Whole enc Tryz.prog f.params.toList s.vars false W args.toList ds gs before)
  (hs : s.fn H (ds ++ gs) = { results := [.lit (.bool true)], args := ds }) (hb : Below W.heap.size W W') :
  s.post enc Tryz.prog f false true false false W args (.bool true) W' := by
 have hlt : ∀ p ∈ before, p.block < W.heap.size := fun p hp => hW.lt p hp
 have hW0 := hW
 obtain ⟨p, q, hA, hV, rfl, hfz, hnd⟩ := hW0
 rw [hvars] at hV
 obtain ⟨rfl, rfl⟩ := trodVars_none hV
 refine ⟨ds, [], p ++ [], [], p, [], hW, ?_, ?_, ?_, World.keptBut_mono (fun x hx => ⟨hx, Or.inr (Or.inl (by simpa using hx))⟩) (hb.frame (· ∈ p ++ [])), fun h => by cases h⟩
 ·rw [hs, hres]
  exact trodAll_mk1 (shut_bool ht true)
 ·rw [hs]
  exact trodAll_later laidOut hb hr hA (fun x hx => hlt x (by simp [hx]))
 ·rw [hs, hvars]
  rfl
end Go.Proofs.YtgjdgapfnfhklaaGreat
