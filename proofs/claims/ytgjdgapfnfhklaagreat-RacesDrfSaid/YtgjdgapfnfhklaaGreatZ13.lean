/-
races.way: the turns by which a node was come to. A node of 
-/
import Derived.Test.YtgjdgapfnfhklaaGreatZ7
import Derived.Test.YtgjdgapfnfhklaaGreatQcp
import Derived.Deep.MidRow
import Derived.Test.YtgjdgapfnfhklaaGreatZ6
import Derived.Test.YtgjdgapfnfhklaaGreatZ5
import Derived.Great.FillDense
import Derived.Laws.Tables
import Derived.Test.YtgjdgapfnfhklaaGreatZ26
import Derived.Test.YtgjdgapfnfhklaaGreatZ16
set_option linter.unusedSimpArgs false
set_option linter.unusedVariables false
set_option maxRecDepth 100000
set_option maxHeartbeats 8000000
namespace Go.Proofs.YtgjdgapfnfhklaaGreat
open Go.RowKit
structure WN where
 cs : List Value
 fr : Int
 by_ : Int
 wy : List Nat
 len : cs.length = 168
 f6 : cs[166]? = some (.int .i64 fr)
 f7 : cs[167]? = some (.int .i64 by_)
 one : cs.toArray.all (·.oneCell') = true
def ParOf (ps : List WN) (p : WN) : Prop := (p.fr = -1 /\ p.wy = []) ∨ ∃ (q t : Nat) (pq : WN), p.fr = q /\ p.by_ = t /\ ps[q]? = some pq /\ p.wy = pq.wy ++ [t]
def tnW (t : Nat) : Tn := ⟨t, false, 0⟩
def WayR (wy : List Nat) (w : World) (e : Ending) (w' : World) : Prop := ∃ A k, e = .returned (.slice A wy.length k) /\ w'.ownsRow w.heap.size 91 3 (.slice A wy.length k) wy.length (tnVals (wy.map tnW)) /\ Below w.heap.size w w'
theorem own_new {W : World} {B n sz : Nat} {t : TypeId} {cs : List Value} (hl : cs.length = n * sz) (hB : B <= W.heap.size) (hn : n <= maxLen) : (W.alloc (.cells cs.toArray t)).ownsRow B t sz (.slice (some ⟨W.heap.size, 0, none⟩) n n) n cs :=
 (show Rw (W.alloc (.cells cs.toArray t)) W.heap.size t sz n n cs from ⟨hl, cs, Blk.new W t cs, hl, List.take_of_length_le (by omega), Nat.le_refl _, hn⟩).own hB
theorem own_lowW {w : World} {base base' e size n : Nat} {v : Value} {xs : List Value} (h : w.ownsRow base e size v n xs) (hb : base' <= base) : w.ownsRow base' e size v n xs := ⟨h.1, h.2.imp id fun ⟨g, cap, cur, e1, h1, h2⟩ => ⟨g, cap, cur, e1, Nat.le_trans hb h1, h2⟩⟩
theorem own_rowW {w : World} {B e s n g : Nat} {t : TypeId} {v : Value} {xs cs : List Value} {ds : Array Value} (h : w.ownsRow B e s v n xs) (hB : Blk w g t cs) (hne : e ≠ t) : (w.setRow g ds).ownsRow B e s v n xs := by
 have hn := own_nb h hB hne
 refine ⟨h.1, ?_⟩
 rcases h.2 with h0 | ⟨q, cap, cur, hv, hb, hg, h3⟩
 ·exact Or.inl h0
 ·refine Or.inr ⟨q, cap, cur, hv, hb, ?_, h3⟩
  rw [rowK (fun he => hn (by rw [hv, he]; rfl))]
  exact hg
theorem wn_at {ps : List WN} {q : Nat} {p : WN} (h : ps[q]? = some p) {i : Nat} (hi : i < 168) : (ps.flatMap WN.cs)[q * 168 + i]? = p.cs[i]? := flat_get WN.cs 168 (fun x => x.len) h i hi
theorem info_tnW : (Tryz.prog.info? 91).map (fun i => (i.zero, i.size, i.bytes)) = some (some (.agg #[.int .i64 0, .bool false, .int .i64 0]), 3, 24) := by kernel_rfl
theorem size_nod : (Tryz.prog.info? 105).map (·.size) = some 168 := by kernel_rfl
theorem tn_one (l : List Tn) : ∀ u ∈ tnVals l, u.oneCell' = true := by
 intro u hu
 obtain ⟨x, _, hx⟩ := List.mem_flatMap.1 hu
 simp at hx
 rcases hx with rfl | rfl | rfl <;> rfl
theorem way_any (ps : List WN) (p : WN) (A : Option Addr) (n k : Nat) (w : World) (hs : Sl w w.heap.size 168 A n (ps.flatMap WN.cs)) (hps : ∀ (j : Nat) (q : WN), ps[j]? = some q -> ParOf ps q) (hp : ParOf ps p) (hn : n <= 100000) (hw : p.wy.length <= 100000) :
  Calls Tryz.prog 28 #[.slice A n k, .agg p.cs.toArray] w (WayR p.wy w) := by
 obtain ⟨it, hit, hitz, hits, hitb⟩ := info_parts info_tnW
 have hpl : ps.length = n := by
  have h1 := hs.1
  rw [flat_len WN.cs 168 (fun x => x.len)] at h1
  omega
 have HS := Lh hs
 have HPs := Lh hps
 have HP := Lh hp
 have HPl := Lh hpl
 have HWl := Lh hw
 obtain ⟨w0, hw0⟩ : ∃ w0 : World, w0 = w.alloc (.cells p.cs.toArray 105) := ⟨_, rfl⟩
 have HB0 : Hid (Blk w0 w.heap.size 105 p.cs) := by rw [hw0]; exact Lh (Blk.new w _ _)
 have HW0 : Hid (Below w.heap.size w w0) := by rw [hw0]; exact Lh ((Below.refl _ _).alloc (Nat.le_refl _) _)
 have hz0 : w.heap.size < w0.heap.size := HB0.o.lt
 have HWe := Lh hw0
 clear hs hps hp hpl hw hw0
 go_enter Tryz.func28, Tryz.ntmps28
 go_upto_region 1 with fail
 rw [<- HWe.o]
 clear HWe
 go_wp2_with fail
 go_loopg [5] p.wy.length (fun gk v wr => ∃ (c : WN) (ts : List Nat) (v9 : Value), v = v9 /\ c.wy.length = gk /\ Hid (c.wy ++ ts = p.wy) /\ Hid (ParOf ps c) /\ Hid (Blk wr w.heap.size 105 c.cs) /\ Hid (wr.ownsRow (w.heap.size + 1) 91 3 v9 ts.length (tnVals (ts.map tnW))) /\ Hid (Below w.heap.size w wr))
 case atStart => exact ⟨p, [], _, rfl, rfl, Lh (List.append_nil _), HP, HB0, Lh (World.ownsRow_nil _ _ _ _), HW0⟩
 case round =>
  obtain ⟨c, ts, v9, hv9, hgk, HA, HC, HB, HO, HW⟩ := hrel
  subst hv9
  obtain ⟨A5, k5, hv5, hk51, hk52⟩ := own_form HO.o
  subst hv5
  have c6 : wr.cell? ⟨w.heap.size, 166, none⟩ = some (.int .i64 c.fr) := HB.o.cell c.f6
  have c7 : wr.cell? ⟨w.heap.size, 167, none⟩ = some (.int .i64 c.by_) := HB.o.cell c.f7
  rcases HC.o with ⟨hfr, hwy⟩ | ⟨q, t, pq, hfr, hby, hpq, hwy⟩
  ·rw [hfr] at c6
   have Hwy := Lh hwy
   clear hfr hwy
   go_wp2_with fail
   go_ret
   have hts : ts = p.wy := by have h9 := HA.o; rw [Hwy.o, List.nil_append] at h9; exact h9
   rw [<- hts]
   exact ⟨A5, k5, rfl, own_lowW HO.o (Nat.le_succ _), HW.o⟩
  ·rw [hfr] at c6
   rw [hby] at c7
   have Hpq := Lh hpq
   have Hfr := Lh hfr
   have Hwy := Lh hwy
   have hqn : q < n := by rw [<- HPl.o]; exact (List.getElem?_eq_some_iff.1 hpq).1
   have hlts : ts.length <= 100000 := by
    have h9 := congrArg List.length HA.o
    rw [List.length_append] at h9
    have := HWl.o
    omega
   have e1 : (q : Int) < n := by omega
   have e0 : (0 : Int) <= q := by omega
   have e2 : ¬ ((q : Int) < 0) := by omega
   have hgk2 : pq.wy.length + 1 = gk := by rw [<- hgk, hwy]; simp
   obtain ⟨b, o, rfl, hbb, hcs⟩ := HS.o.2 (by omega)
   have HR : Hid (w.rangeAt b (o + q * 168) pq.cs) := Lh fun i u hu => by
    have hi := (List.getElem?_eq_some_iff.1 hu).1
    rw [pq.len] at hi
    rw [Nat.add_assoc]
    exact hcs _ _ ((wn_at hpq hi).trans hu)
   clear hfr hby hpq hwy hcs hgk
   go_upto_region 4 with (at_builtin; go_must (refine wpList_app _ rfl _ _ 28 rfl (w.heap.size + 1) 91 it (.agg #[.int .i64 0, .bool false, .int .i64 0]) 3 24 Tryz.underlying28 hit hitz hits hitb rfl (by decide) (.slice (some ⟨wr.heap.size, 0, none⟩) 1 1) 1 (tnVals [tnW t]) rfl (own_new (W := wr) (cs := tnVals [tnW t]) rfl (by have hz9 := HB.o.lt; omega) (by simp only [maxLen]; omega)) (wr.heap.size + 1) A5 ts.length k5 (tnVals (ts.map tnW)) rfl (((Sl.of_own HO.o).below ((Below.refl _ _).alloc (Nat.le_refl _) _)).up (by omega)) (tn_one _) ((t :: ts).length) (by simp; omega) (tnVals ((t :: ts).map tnW)) (by simp [tnVals]) _ rfl (by simp only [maxLen, List.length_cons]; omega) (by simp only [List.length_cons]; omega) (by have hz9 := HB.o.lt; rw [World.size_alloc]; omega) ?_; intro A7 k7 w7 hown hg hat hk7 hk8))
   have hb7 : Below w.heap.size w w7 := (HW.o.alloc HW.o.size _).grown hg (by rw [World.size_alloc]; have := HW.o.size; omega) (fun q hq => by injection hq with hq; have hq2 : wr.heap.size = q := hq; have := HW.o.size; omega)
   have hB7 : Blk w7 w.heap.size 105 c.cs := (HB.o.alloc _).grown hg (by intro e; injection e with e; have e2 : w.heap.size = wr.heap.size := e; have := HB.o.lt; omega)
   have hR7 : w7.rangeAt b (o + q * 168) pq.cs := fun j v hv => (hb7.cell (p := ⟨b, o + q * 168 + j, none⟩) hbb).trans (HR.o j v hv)
   have d6 : w7.cell? ⟨w.heap.size, 166, none⟩ = some (.int .i64 q) := hB7.cell (by rw [c.f6, Hfr.o])
   have HR7 := Lh hR7
   have HO7 := Lh hown
   have HB7 := Lh hb7
   have HC7 := Lh hB7
   clear hown hg hat hb7 hB7 hR7 c6 c7 HB HO HW
   go_wp2_with fail
   refine wp_load_mid 105 _ rfl b (o + q * 168) rfl pq.cs _ HR7.o Tryz.underlying105 rfl (by rw [size_nod, pq.len]) ?_
   go_wp2_with (refine wpList_store_row rfl _ _ _ rfl w.heap.size pq.cs.toArray rfl rfl 105 c.cs.toArray HC7.o (by rw [size_nod]; simp [pq.len]) (by simp [c.len, pq.len]) pq.one ?_)
   go_roundg (gk - 1)
   case measure => omega
   case rel =>
    refine ⟨pq, t :: ts, _, rfl, by omega, ?_, Lh (HPs.o q pq Hpq.o), Lh (setRow_heap _ _ _ pq.cs.toArray _ _ HC7.o), Lh (own_rowW HO7.o HC7.o (by decide)), Lh (rowB HB7.o (Nat.le_refl _))⟩
    refine Lh ?_
    have h9 := HA.o
    rw [Hwy.o, List.append_assoc] at h9
    exact h9
end Go.Proofs.YtgjdgapfnfhklaaGreat
namespace Go.Proofs.YtgjdgapfnfhklaaGreat
open Go.RowKit
theorem splice_get {L l : List Value} {off : Nat} (h : off + l.length <= L.length) (k : Nat) : (splice L off l)[k]? = if off <= k /\ k < off + l.length /\ k < L.length then l[k - off]? else L[k]? := by
 unfold splice
 by_cases h1 : k < off
 ·rw [if_neg (by omega), List.getElem?_append_left (by rw [List.length_take]; omega), List.getElem?_take_of_lt h1]
 ·rw [List.getElem?_append_right (by rw [List.length_take]; omega), List.length_take, show k - min off L.length = k - off by omega]
  by_cases h2 : k < off + l.length
  ·rw [if_pos (by omega), List.getElem?_append_left (by omega)]
  ·rw [if_neg (by omega), List.getElem?_append_right (by omega), List.getElem?_drop]
   congr 1
   omega
theorem fill_cons {place : Nat -> Option (Nat × Nat)} {L l : List Value} {i off size : Nat} {v : Value} {rest : List (Nat × Value)} (hp : place i = some (off, size)) (hv : v.cells = l.toArray) (hl : l.length = size) (hfit : off + size <= L.length) :
  Instr.fill place L.toArray ((i, v) :: rest) = Instr.fill place (splice L off l).toArray rest := by
 subst hl
 rw [Instr.fill, hp]
 dsimp only
 rw [hv]
 have hs : ((l.toArray.size ≠ l.length) || decide (off + l.toArray.size > L.toArray.size)) = false := by simp; omega
 rw [if_neg (by simpa using hs)]
 congr 1
 obtain ⟨h1, h2⟩ := Great.foldl_set off l 0 L.toArray
 have he : (l.toArray.zipIdx.foldl (fun cs (x : Value × Nat) => match x with | (c, j) => cs.setIfInBounds (off + j) c) L.toArray) = ((l.zipIdx 0).foldl (fun cs (x : Value × Nat) => cs.setIfInBounds (off + x.2) x.1) L.toArray) := by
  rw [<- Array.foldl_toList, Array.toList_zipIdx]
 rw [he]
 apply Array.ext_getElem?
 intro k
 rw [h2 k]
 simp only [List.getElem?_toArray, List.size_toArray, Nat.add_zero]
 rw [splice_get hfit]
def zeroNd : List Value := [.slice none 0 0, .slice none 0 0, .slice none 0 0, .slice none 0 0] ++ List.replicate 164 (.int .i64 0)
def plNd : List (Nat × Nat) := [(0, 4), (4, 162), (166, 1), (167, 1)]
theorem built_nd : ∀ parts, Tryz.prog.built 105 parts = Instr.fill (fun x => plNd.toArray[x]?) zeroNd.toArray parts := by
 intro parts
 rfl
theorem built_node {s p : List Value} {fr b : Int} (hs : s.length = 4) (hp : p.length = 162) : Tryz.prog.built 105 [(0, .agg s.toArray), (1, .agg p.toArray), (2, .int .i64 fr), (3, .int .i64 b)] = some (s ++ (p ++ [Value.int .i64 fr, Value.int .i64 b])).toArray := by
 have hz : zeroNd.length = 168 := rfl
 rw [built_nd, fill_cons (off := 0) (size := 4) (l := s) rfl rfl hs (by rw [hz]; omega)]
 have e1 : splice zeroNd 0 s = s ++ List.replicate 164 (Value.int .i64 0) := by
  unfold splice
  rw [List.take_zero, List.nil_append, Nat.zero_add, hs]
  rfl
 rw [e1, fill_cons (off := 4) (size := 162) (l := p) rfl rfl hp (by simp only [List.length_append, List.length_replicate, List.length_cons, List.length_nil, hs]; omega)]
 have e2 : splice (s ++ List.replicate 164 (Value.int .i64 0)) 4 p = s ++ (p ++ [Value.int .i64 0, .int .i64 0]) := by
  unfold splice
  rw [List.take_append_of_le_length (by omega), List.take_of_length_le (by omega), List.drop_append, List.drop_eq_nil_of_le (by omega), List.nil_append, hs, hp]
  rfl
 rw [e2, fill_cons (off := 166) (size := 1) (l := [.int .i64 fr]) rfl rfl rfl (by simp only [List.length_append, List.length_replicate, List.length_cons, List.length_nil, hs, hp]; omega)]
 have e3 : splice (s ++ (p ++ [Value.int .i64 0, .int .i64 0])) 166 [.int .i64 fr] = s ++ (p ++ [Value.int .i64 fr, .int .i64 0]) := by
  unfold splice
  rw [List.take_append, List.take_of_length_le (by omega), hs, List.take_append, List.take_of_length_le (by omega), hp, List.drop_append, List.drop_eq_nil_of_le (by simp; omega), hs, List.drop_append, List.drop_eq_nil_of_le (by simp; omega), hp]
  simp
 rw [e3, fill_cons (off := 167) (size := 1) (l := [.int .i64 b]) rfl rfl rfl (by simp only [List.length_append, List.length_replicate, List.length_cons, List.length_nil, hs, hp]; omega)]
 have e4 : splice (s ++ (p ++ [Value.int .i64 fr, .int .i64 0])) 167 [.int .i64 b] = s ++ (p ++ [Value.int .i64 fr, .int .i64 b]) := by
  unfold splice
  rw [List.take_append, List.take_of_length_le (by omega), hs, List.take_append, List.take_of_length_le (by omega), hp, List.drop_append, List.drop_eq_nil_of_le (by simp; omega), hs, List.drop_append, List.drop_eq_nil_of_le (by simp; omega), hp]
  simp
 rw [e4]
 rfl
theorem built_start {s : List Value} {fr : Int} (hs : s.length = 4) : Tryz.prog.built 105 [(0, .agg s.toArray), (2, .int .i64 fr)] = some (s ++ (List.replicate 162 (Value.int .i64 0) ++ [Value.int .i64 fr, Value.int .i64 0])).toArray := by
 have hz : zeroNd.length = 168 := rfl
 rw [built_nd, fill_cons (off := 0) (size := 4) (l := s) rfl rfl hs (by rw [hz]; omega)]
 have e1 : splice zeroNd 0 s = s ++ (List.replicate 162 (Value.int .i64 0) ++ [Value.int .i64 0, .int .i64 0]) := by
  unfold splice
  rw [List.take_zero, List.nil_append, Nat.zero_add, hs]
  rfl
 rw [e1, fill_cons (off := 166) (size := 1) (l := [.int .i64 fr]) rfl rfl rfl (by simp only [List.length_append, List.length_replicate, List.length_cons, List.length_nil, hs]; omega)]
 have hp : (List.replicate 162 (Value.int .i64 0)).length = 162 := by simp
 have e3 : ∀ p : List Value, p.length = 162 -> splice (s ++ (p ++ [Value.int .i64 0, .int .i64 0])) 166 [.int .i64 fr] = s ++ (p ++ [Value.int .i64 fr, .int .i64 0]) := by
  intro p hp
  unfold splice
  rw [List.take_append, List.take_of_length_le (by omega), hs, List.take_append, List.take_of_length_le (by omega), hp, List.drop_append, List.drop_eq_nil_of_le (by simp; omega), hs, List.drop_append, List.drop_eq_nil_of_le (by simp; omega), hp]
  simp
 rw [e3 _ hp]
 rfl
def nodL (h : SH) (n nw : Nat) (x : Nd) (fr b : Int) : List Value := stL h n nw ++ (picV x ++ [.int .i64 fr, .int .i64 b])
theorem padV_one {k : Nat} {xs : List Value} (h : ∀ v ∈ xs, v.oneCell' = true) : ∀ v ∈ padV k xs, v.oneCell' = true := by
 intro v hv
 unfold padV at hv
 rcases List.mem_append.1 hv with h1 | h1
 ·exact h v h1
 ·rw [(List.mem_replicate.1 h1).2]
  rfl
theorem picV_one (x : Nd) : ∀ v ∈ picV x, v.oneCell' = true := by
 intro v hv
 unfold picV at hv
 simp only [List.mem_append] at hv
 rcases hv with h | h | h | h | h
 ·exact padV_one ints_oneF v h
 ·exact padV_one ints_oneF v h
 ·exact padV_one natsI_one v h
 ·exact ints_oneF v h
 ·exact ints_oneF v h
section
variable {l : Lit} {x : Nd}
theorem picV_lenG (h : GoodS l x.S) (hn : l.tn <= 4) (hw : l.wn <= 6) : (picV x).length = 162 := by
 unfold picV
 simp only [List.length_append]
 rw [padV_len (by rw [ints_len, h.w]; exact hw), padV_len (by rw [ints_len, h.r]; omega), padV_len (by rw [natsI_len, h.p]; exact hn), tL_len, lastL_len]
theorem nodL_len (hx : GoodS l x.S) (hn : l.tn <= 4) (hw : l.wn <= 6) (h : SH) (fr b : Int) : (nodL h l.tn l.wn x fr b).length = 168 := by
 unfold nodL
 rw [List.length_append, List.length_append, picV_lenG hx hn hw]
 rfl
theorem nodL_get (hx : GoodS l x.S) (hn : l.tn <= 4) (hw : l.wn <= 6) (h : SH) (fr b : Int) : (nodL h l.tn l.wn x fr b)[166]? = some (.int .i64 fr) /\ (nodL h l.tn l.wn x fr b)[167]? = some (.int .i64 b) := by
 have h1 := picV_lenG hx hn hw
 unfold nodL
 constructor
 ·rw [List.getElem?_append_right (by simp), show 166 - (stL h l.tn l.wn).length = 162 from rfl, List.getElem?_append_right (by omega), h1]
  rfl
 ·rw [List.getElem?_append_right (by simp), show 167 - (stL h l.tn l.wn).length = 163 from rfl, List.getElem?_append_right (by omega), h1]
  rfl
theorem nodL_one (h : SH) (fr b : Int) : (nodL h l.tn l.wn x fr b).toArray.all (·.oneCell') = true := by
 suffices key : ∀ v ∈ nodL h l.tn l.wn x fr b, v.oneCell' = true by simpa using key
 intro v hv
 unfold nodL at hv
 simp only [List.mem_append] at hv
 rcases hv with h1 | h1 | h1
 ·simp at h1
  rcases h1 with rfl | rfl | rfl | rfl <;> rfl
 ·exact picV_one x v h1
 ·simp at h1
  rcases h1 with rfl | rfl <;> rfl
def mkWN (hx : GoodS l x.S) (hn : l.tn <= 4) (hw : l.wn <= 6) (h : SH) (fr b : Int) : WN :=
 ⟨nodL h l.tn l.wn x fr b, fr, b, x.way, nodL_len hx hn hw h fr b, (nodL_get hx hn hw h fr b).1, (nodL_get hx hn hw h fr b).2, nodL_one h fr b⟩
end
theorem pad_drop {k m : Nat} {a b : List Value} (ha : a.length = m) (hb : b.length = m) : a ++ (padV k b).drop m = padV k a := by
 unfold padV
 rw [List.drop_append_of_le_length (by omega), List.drop_eq_nil_of_le (by omega), List.nil_append, ha, hb]
theorem pad_zero {k m : Nat} {a : List Value} (ha : a.length = m) (h : m <= k) : a ++ (List.replicate k (Value.int .i64 0)).drop m = padV k a := by
 unfold padV
 rw [List.drop_replicate, ha]
end Go.Proofs.YtgjdgapfnfhklaaGreat
namespace Go.Proofs.YtgjdgapfnfhklaaGreat
open Go.RowKit
theorem info_tn : (Tryz.prog.info? 91).map (fun i => (i.zero, i.size, i.bytes)) = some (some (.agg #[.int .i64 0, .bool false, .int .i64 0]), 3, 24) := by kernel_rfl
theorem tnq_one (u : Tn) : ∀ v ∈ tnL u, v.oneCell' = true := by intro v hv; simp at hv; rcases hv with rfl | rfl | rfl <;> rfl
def tsP (l : Lit) (o t : Nat) : List Tn := tnB t :: (if o = 2 then [⟨t, true, 0⟩] else if o = 3 then (List.range l.wn).map fun a : Nat => ⟨t, true, a⟩ else [])
def tsA (l : Lit) (o : Nat) : Nat -> List Tn
 | 0 => []
 | t + 1 => tsA l o t ++ tsP l o t
theorem tsA_all (l : Lit) (o : Nat) : ∀ n, tsA l o n = (List.range n).flatMap (tsP l o)
 | 0 => rfl
 | n + 1 => by rw [tsA, tsA_all l o n, List.range_succ, List.flatMap_append]; simp
theorem turnsO_tsA (l : Lit) (o : Nat) : turnsO l o = tsA l o l.tn := (tsA_all l o l.tn).symm
structure TsI (w : World) (l : Lit) (va : Value) (us : List Tn) (W : World) : Prop where
 own : W.ownsRow w.heap.size 91 3 va us.length (tnVals us)
 bel : Below w.heap.size w W
 lit : Blk W w.heap.size 25 (litL l)
theorem TsI.add {w W W9 : World} {l : Lit} {va : Value} {us : List Tn} {A : Option Addr} {k : Nat} {u : Tn} {o : Obj} (h : TsI w l va us W) (hg : (W.alloc o).grownBy W9 va.ownBlock) (ho : W9.ownsRow w.heap.size 91 3 (.slice A (us.length + 1) k) (us.length + 1) (tnVals (us ++ [u]))) : TsI w l (.slice A (us ++ [u]).length k) (us ++ [u]) W9 := by
 have e : (us ++ [u]).length = us.length + 1 := by simp
 rw [<- e] at ho
 exact ⟨ho, (h.bel.alloc h.bel.size o).grown hg (by have := h.bel.size; simp; omega) (fun q hq => (h.own.lt q hq).1), (h.lit.alloc o).grown hg (own_nb h.own h.lit (by decide))⟩
def TsR (l : Lit) (o : Nat) (w : World) (e : Ending) (w' : World) : Prop := ∃ A k, e = .returned (.slice A (turnsO l o).length k) /\ w'.ownsRow w.heap.size 91 3 (.slice A (turnsO l o).length k) (turnsO l o).length (tnVals (turnsO l o)) /\ Below w.heap.size w w'
theorem turns_q (l : Lit) (o : Nat) (w : World) (ho : o = 1 ∨ o = 2 ∨ o = 3) (hn4 : l.tn <= 4) (hw6 : l.wn <= 6) : Calls Tryz.prog 60 #[litV l, .int .i64 o] w (TsR l o w) := by
 obtain ⟨i1, hi1, hi1z, hi1s, hi1b⟩ := info_parts info_tn
 have H0 : Hid (TsI w l (.slice none 0 0) [] (w.alloc (.cells #[.slice l.wA l.wn l.wk, .slice l.tA l.tn l.tk] 25))) := ⟨World.ownsRow_nil _ _ _ _, (Below.refl _ _).alloc (Nat.le_refl _) _, Blk.new _ _ _⟩
 go_enter Tryz.func60, Tryz.ntmps60
 go_upto_region 2 with fail
 generalize w.alloc (.cells #[.slice l.wA l.wn l.wk, .slice l.tA l.tn l.tk] 25) = w0 at H0 ⊢
 have q1 := H0.o.lit.cell (i := 1) rfl
 go_wp2_with fail
 clear q1
 go_loopg [5, 11] l.tn (fun gk s5 i wr => ∃ (t : Nat) (us : List Tn) (va : Value), t + gk = l.tn /\ s5 = va /\ i = .int .i64 t /\ Hid (us = tsA l o t) /\ us.length <= 7 * t /\ Hid (TsI w l va us wr))
 case atStart => exact ⟨0, [], _, by omega, rfl, rfl, Lh rfl, by simp, H0⟩
 case round =>
  clear H0
  obtain ⟨t, us, va, ht, hva, rfl, HU, hul, HI⟩ := hrel
  subst hva
  obtain ⟨A, ka, hva, hka1, hka2⟩ := own_form HI.o.own
  subst hva
  by_cases hlt : t < l.tn
  ·have e1 : (t : Int) < l.tn := by omega
   have e0 : (0 : Int) <= t := by omega
   go_upto_region 6 with (at_builtin; go_must (refine wpList_app _ rfl _ _ 28 rfl w.heap.size 91 i1 (.agg #[.int .i64 0, .bool false, .int .i64 0]) 3 24 Tryz.underlying28 hi1 hi1z hi1s hi1b rfl (by decide) (.slice A us.length ka) us.length (tnVals us) rfl (HI.o.own.alloc _) (wr.heap.size + 1) (some ⟨wr.heap.size, 0, none⟩) 1 1 (tnL (tnB t)) rfl (((Blk.new wr 91 (tnL (tnB t))).sl rfl).up (by simp)) (tnq_one _) (us.length + 1) rfl (tnVals (us ++ [(tnB t)])) (by simp [tnVals]) _ rfl (by simp only [maxLen]; omega) (by omega) (by have := HI.o.bel.size; simp; omega) ?_; intro A2 k2 w2 hown hg hat hk1 hk2; have H2 := Lh (HI.o.add hg hown); clear hown hg hat hk1 hk2))
   obtain ⟨us2, hus2⟩ : ∃ us2, us2 = us ++ [tnB t] := ⟨_, rfl⟩
   have hul2 : us2.length = us.length + 1 := by rw [hus2]; simp
   rw [<- hus2] at H2
   have HU2 := Lh hus2
   rw [<- hul2]
   have hul3 : us2.length <= 7 * t + 1 := by omega
   clear hus2 hul2
   obtain rfl | rfl | rfl := ho
   ·go_wp2_with fail
    go_roundg (gk - 1)
    case measure => omega
    case rel => exact ⟨t + 1, us2, _, by omega, rfl, by go_num, Lh (by rw [HU2.o, HU.o]; rfl), by omega, H2⟩
   ·go_wp2_with (at_builtin; go_must (refine wpList_app _ rfl _ _ 28 rfl w.heap.size 91 i1 (.agg #[.int .i64 0, .bool false, .int .i64 0]) 3 24 Tryz.underlying28 hi1 hi1z hi1s hi1b rfl (by decide) (.slice A2 us2.length k2) us2.length (tnVals us2) rfl (H2.o.own.alloc _) (w2.heap.size + 1) (some ⟨w2.heap.size, 0, none⟩) 1 1 (tnL (Tn.mk t true 0)) rfl (((Blk.new w2 91 (tnL (Tn.mk t true 0))).sl rfl).up (by simp)) (tnq_one _) (us2.length + 1) rfl (tnVals (us2 ++ [(Tn.mk t true 0)])) (by simp [tnVals]) _ rfl (by simp only [maxLen]; omega) (by omega) (by have := H2.o.bel.size; simp; omega) ?_; intro A3 k3 w3 hown hg hat hk1 hk2; have H3 := Lh (H2.o.add hg hown); clear hown hg hat hk1 hk2))
    go_roundg (gk - 1)
    case measure => omega
    case rel => exact ⟨t + 1, us2 ++ [⟨t, true, 0⟩], .slice A3 (us2 ++ [(⟨t, true, 0⟩ : Tn)]).length k3, by omega, by simp, by go_num, Lh (by rw [HU2.o, HU.o]; show _ = tsA l 2 t ++ tsP l 2 t; simp [tsP]), by simp; omega, H3⟩
   ·have q0 : w2.cell? ⟨w.heap.size, 0, none⟩ = some (.slice l.wA l.wn l.wk) := H2.o.lit.cell rfl
    obtain ⟨g1, rfl⟩ : ∃ g1, g1 = gk := ⟨_, rfl⟩
    go_wp2_with fail
    clear q0
    go_loopg [5, 32] l.wn (fun gk s5 i wr => ∃ (a : Nat) (vs : List Tn) (vb : Value), a + gk = l.wn /\ s5 = vb /\ i = .int .i64 a /\ Hid (vs = us2 ++ (List.range a).map fun a : Nat => ⟨t, true, a⟩) /\ vs.length <= 7 * t + 1 + a /\ Hid (TsI w l vb vs wr))
    case atStart => exact ⟨0, us2, _, by omega, rfl, rfl, Lh (by simp), by omega, H2⟩
    case round =>
     clear H2
     obtain ⟨a, vs, vb, hat, hvb, rfl, HV, hvl, HJ⟩ := hrel
     subst hvb
     obtain ⟨B, kb, hvb, hkb1, hkb2⟩ := own_form HJ.o.own
     subst hvb
     by_cases hla : a < l.wn
     ·have e2 : (a : Int) < l.wn := by omega
      have e3 : (0 : Int) <= a := by omega
      go_wp2_with (at_builtin; go_must (refine wpList_app _ rfl _ _ 28 rfl w.heap.size 91 i1 (.agg #[.int .i64 0, .bool false, .int .i64 0]) 3 24 Tryz.underlying28 hi1 hi1z hi1s hi1b rfl (by decide) (.slice B vs.length kb) vs.length (tnVals vs) rfl (HJ.o.own.alloc _) (wr.heap.size + 1) (some ⟨wr.heap.size, 0, none⟩) 1 1 (tnL (Tn.mk t true a)) rfl (((Blk.new wr 91 (tnL (Tn.mk t true a))).sl rfl).up (by simp)) (tnq_one _) (vs.length + 1) rfl (tnVals (vs ++ [(Tn.mk t true a)])) (by simp [tnVals]) _ rfl (by simp only [maxLen]; omega) (by omega) (by have := HJ.o.bel.size; simp; omega) ?_; intro A3 k3 w3 hown hg hat hk1 hk2; have H3 := Lh (HJ.o.add hg hown); clear hown hg hat hk1 hk2))
      go_roundg (gk - 1)
      case measure => omega
      case rel => exact ⟨a + 1, vs ++ [⟨t, true, a⟩], .slice A3 (vs ++ [(⟨t, true, a⟩ : Tn)]).length k3, by omega, by simp, by go_num, Lh (by rw [HV.o, List.range_succ, List.map_append, List.append_assoc]; rfl), by simp; omega, H3⟩
     ·obtain rfl : a = l.wn := by omega
      go_wp2_with fail
      go_roundg (g1 - 1)
      case measure => omega
      case rel => exact ⟨t + 1, vs, _, by omega, rfl, by go_num, Lh (by rw [HV.o, HU2.o, HU.o]; show _ = tsA l 3 t ++ tsP l 3 t; simp [tsP]), by omega, HJ⟩
  ·obtain rfl : t = l.tn := by omega
   go_wp2_with fail
   go_ret
   rw [HU.o, <- turnsO_tsA] at HI
   exact ⟨A, ka, by rw [show (turnsO l o).length = us.length by rw [HU.o, turnsO_tsA]]; rfl, HI.o.own, HI.o.bel⟩
end Go.Proofs.YtgjdgapfnfhklaaGreat
namespace Go.Proofs.YtgjdgapfnfhklaaGreat
open Go.RowKit
theorem finB_succ {l : Lit} {B : BS} {t : Nat} (h : ∀ s, s < t -> (codeOf l s).length <= B.S.p s /\ B.b s = []) (h2 : (codeOf l t).length <= B.S.p t /\ B.b t = []) : ∀ s, s < t + 1 -> (codeOf l s).length <= B.S.p s /\ B.b s = [] := fun s hs => by
 by_cases e : s = t
 ·subst e; exact h2
 ·exact h s (by omega)
theorem final_q (l : Lit) (w : World) (h : SH) (S : LS) (bs : List Bf) (hl : LitAt w w.heap.size l) (hs : StQ w h l.tn l.wn S bs) (hok : okLit l = true) :
  Calls Tryz.prog 30 #[litV l, stV h l.tn l.wn] w (fun e w' => e = .returned (.bool (finB l ⟨S, bs.map (·.q)⟩)) /\ Below w.heap.size w w') := by
 obtain ⟨n1, n2, n3, n4⟩ := okLit_num hok
 have HL := Lh hl
 have HS := Lh hs
 have HOk := Lh hok
 obtain ⟨tb, to', hta, htb, hth⟩ := hl.heads n1
 have HTh := Lh hth
 have hbl := hs.blen
 have htl := hl.tlen
 have HW0 : Hid (Below w.heap.size w ((w.alloc (.cells #[.slice l.wA l.wn l.wk, .slice l.tA l.tn l.tk] 25)).alloc (.cells #[.slice (some ⟨h.gw, 0, none⟩) l.wn h.kw, .slice (some ⟨h.gr, 0, none⟩) l.tn h.kr, .slice (some ⟨h.gp, 0, none⟩) l.tn h.kp, .slice (some ⟨h.gb, 0, none⟩) l.tn h.kb] 77))) := ((Below.refl _ _).alloc (Nat.le_refl _) _).alloc (by simp) _
 have HL0 : Hid (Blk ((w.alloc (.cells #[.slice l.wA l.wn l.wk, .slice l.tA l.tn l.tk] 25)).alloc (.cells #[.slice (some ⟨h.gw, 0, none⟩) l.wn h.kw, .slice (some ⟨h.gr, 0, none⟩) l.tn h.kr, .slice (some ⟨h.gp, 0, none⟩) l.tn h.kp, .slice (some ⟨h.gb, 0, none⟩) l.tn h.kb] 77)) w.heap.size 25 [.slice l.wA l.wn l.wk, .slice l.tA l.tn l.tk]) := (Blk.new w 25 [.slice l.wA l.wn l.wk, .slice l.tA l.tn l.tk]).alloc _
 have HT0 : Hid (Blk ((w.alloc (.cells #[.slice l.wA l.wn l.wk, .slice l.tA l.tn l.tk] 25)).alloc (.cells #[.slice (some ⟨h.gw, 0, none⟩) l.wn h.kw, .slice (some ⟨h.gr, 0, none⟩) l.tn h.kr, .slice (some ⟨h.gp, 0, none⟩) l.tn h.kp, .slice (some ⟨h.gb, 0, none⟩) l.tn h.kb] 77)) (w.heap.size + 1) 77 (stL h l.tn l.wn)) := by
  have h9 := Blk.new (w.alloc (.cells #[.slice l.wA l.wn l.wk, .slice l.tA l.tn l.tk] 25)) 77 (stL h l.tn l.wn)
  rw [World.size_alloc] at h9
  exact h9
 have HTa := Lh hta
 clear hl hs hok hth hta
 go_enter Tryz.func30, Tryz.ntmps30
 go_upto_region 1 with fail
 generalize (w.alloc (.cells #[.slice l.wA l.wn l.wk, .slice l.tA l.tn l.tk] 25)).alloc (.cells #[.slice (some ⟨h.gw, 0, none⟩) l.wn h.kw, .slice (some ⟨h.gr, 0, none⟩) l.tn h.kr, .slice (some ⟨h.gp, 0, none⟩) l.tn h.kp, .slice (some ⟨h.gb, 0, none⟩) l.tn h.kb] 77) = w0 at HL0 HW0 HT0 ⊢
 have q1 := HL0.o.cell (i := 1) rfl
 rw [HTa.o] at q1
 have c2 := HT0.o.cell (i := 2) rfl
 have c3 := HT0.o.cell (i := 3) rfl
 have HS0 := Lh (HS.o.on HW0.o)
 go_wp2_with fail
 clear q1
 go_loopg [10] l.tn (fun gk s10 wr => ∃ t : Nat, s10 = .int .i64 t /\ t + gk = l.tn /\ wr = w0 /\ Hid (∀ s, s < t -> (codeOf l s).length <= S.p s /\ BS.b ⟨S, bs.map (·.q)⟩ s = []))
 case atStart => exact ⟨0, rfl, by omega, rfl, Lh (fun s hs => by omega)⟩
 case round =>
  obtain ⟨t, rfl, htk, rfl, HF⟩ := hrel
  by_cases hlt : t < l.tn
  ·have e1 : (t : Int) < l.tn := by omega
   have e0 : (0 : Int) <= t := by omega
   obtain ⟨x, hx⟩ := at_lt (show t < l.th.length by omega)
   obtain ⟨y, hy⟩ := at_lt (show t < bs.length by omega)
   have d0 : wr.cell? ⟨tb, to' + t, none⟩ = some (.slice x.1.1 x.1.2.1 x.1.2.2) := (HW0.o.cell (by exact htb)).trans (HTh.o t x hx)
   have d1 : wr.cell? ⟨h.gp, t, none⟩ = some (.int .i64 (S.p t)) := HS0.o.plc hlt
   have d2 : wr.cell? ⟨h.gb, t, none⟩ = some (hdV y.hd) := HS0.o.bufc hy
   have hcl : (codeOf l t).length = x.1.2.1 := by unfold codeOf; rw [hx]; exact HL.o.clen (List.mem_of_getElem? hx)
   have hq : BS.b ⟨S, bs.map (·.q)⟩ t = y.q := b_map hy S
   have hyl := (HS0.o.own y (List.mem_of_getElem? hy)).1
   by_cases h1 : S.p t < x.1.2.1
   ·have h1' : (S.p t : Int) < x.1.2.1 := by omega
    go_wp2_with fail
    go_ret
    refine ⟨?_, HW0.o⟩
    have hf : finB l ⟨S, bs.map (·.q)⟩ = false := by
     rw [Bool.eq_false_iff]
     intro h9
     have := (finB_iff.1 h9 t hlt).1
     dsimp only at this
     omega
    rw [hf]
    rfl
   ·have h1' : ¬ (S.p t : Int) < x.1.2.1 := by omega
    by_cases h2 : 0 < y.hd.2.1
    ·have h2' : (y.hd.2.1 : Int) > 0 := by omega
     go_wp2_with fail
     go_ret
     refine ⟨?_, HW0.o⟩
     have hf : finB l ⟨S, bs.map (·.q)⟩ = false := by
      rw [Bool.eq_false_iff]
      intro h9
      have := (finB_iff.1 h9 t hlt).2
      rw [hq] at this
      rw [hyl, this] at h2
      simp at h2
     rw [hf]
     rfl
    ·have h2' : ¬ (y.hd.2.1 : Int) > 0 := by omega
     go_wp2_with fail
     go_roundg (gk - 1)
     case measure => omega
     case rel => exact ⟨t + 1, by go_num, by omega, rfl, Lh (finB_succ (B := ⟨S, bs.map (·.q)⟩) (t := t) HF.o ⟨by show (codeOf l t).length <= S.p t; omega, by rw [hq]; exact List.eq_nil_of_length_eq_zero (by omega)⟩)⟩
  ·have e1 : ¬ (t : Int) < l.tn := by omega
   go_wp2_with fail
   go_ret
   refine ⟨?_, HW0.o⟩
   obtain rfl : t = l.tn := by omega
   rw [finB_iff.2 HF.o]
   rfl
end Go.Proofs.YtgjdgapfnfhklaaGreat
