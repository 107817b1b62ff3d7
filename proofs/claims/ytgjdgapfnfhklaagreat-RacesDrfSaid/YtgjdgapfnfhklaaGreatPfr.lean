/-
races.Free: all states of a litmus program gone through, bre
-/
import Derived.Test.YtgjdgapfnfhklaaGreatZ25
import Derived.Test.YtgjdgapfnfhklaaGreatXop
import Derived.Test.YtgjdgapfnfhklaaGreatNrr
import Derived.Deep.DeepCutAuto
set_option linter.unusedSimpArgs false
set_option linter.unusedVariables false
set_option maxRecDepth 100000
set_option maxHeartbeats 32000000
namespace Go.Proofs.YtgjdgapfnfhklaaGreat
open Go.RowKit Go.Maps
def FreP (l : Lit) (a : Ans) (w : World) (e : Ending) (w' : World) : Prop := match a with
 | .free => e = .returned (.tuple #[.bool true, .slice none 0 0, .int .i64 0]) /\ Below w.heap.size w w'
 | .race wy => ∃ A k, e = .returned (.tuple #[.bool false, .slice A wy.length k, .int .i64 0]) /\ w'.ownsRow w.heap.size 91 3 (.slice A wy.length k) wy.length (tnVals (wy.map tnW)) /\ Below w.heap.size w w'
 | .many => e = .returned (.tuple #[.bool false, .slice none 0 0, .int .i64 192]) /\ Below w.heap.size w w'
theorem evO_agg (o : Option Ev) : ∃ ec : Array Value, evO o = .agg ec /\ ec.size = 4 /\ ec.all (·.oneCell') = true := by
 cases o with
 | none => exact ⟨_, rfl, rfl, by simp [Value.oneCell']⟩
 | some e => exact ⟨_, rfl, rfl, by simp [Value.oneCell']⟩
theorem StAt.keepRow {W : World} {h : SH} {n nw g : Nat} {S : LS} {t : TypeId} {cs : List Value} {ds : Array Value} (s : StAt W h n nw S) (hb : Blk W g t cs) (h1 : 3 ≠ t) (h2 : 96 ≠ t) (h3 : 161 ≠ t) : StAt (W.setRow g ds) h n nw S :=
 ⟨s.w.kept (rowK (s.w.nb hb h1)), s.r.kept (rowK (s.r.nb hb h2)), s.p.kept (rowK (s.p.nb hb h1)), s.b.kept (rowK (s.b.nb hb h3)), s.ne⟩
structure R15 (l : Lit) (x : Nd) (t : Nat) (wr : World) (h2 : SH) (g13 g14 : Nat) (W : World) : Prop where
 bel : Below wr.heap.size wr W
 b13 : Blk W g13 77 (stL h2 l.tn l.wn)
 b14 : ∃ ec : Array Value, evO (evOf l x.S (tnB t)) = .agg ec /\ W.heap[g14]? = some (.cells ec 109 (0, 0))
 st : StAt W h2 l.tn l.wn (turnS l x.S (tnB t))
 nw : NewS wr.heap.size h2
 l13 : wr.heap.size <= g13
 l14 : wr.heap.size <= g14
theorem start_split (s : List Value) (a b : Value) : s ++ (List.replicate 162 (Value.int .i64 0) ++ [a, b]) = s ++ (List.replicate 6 (Value.int .i64 0) ++ (List.replicate 16 (Value.int .i64 0) ++ (List.replicate 4 (Value.int .i64 0) ++ (List.replicate 40 (Value.int .i64 0) ++ (List.replicate 96 (Value.int .i64 0) ++ [a, b]))))) := rfl
theorem start_end {l : Lit} (hg : GoodS l (firstS l)) (hn : l.tn <= 4) (hw : l.wn <= 6) (h : SH) (a b : Int) : stL h l.tn l.wn ++ ((ints (firstS l).ws ++ (List.replicate 6 (Value.int .i64 0)).drop l.wn) ++ ((ints (firstS l).rs ++ (List.replicate 16 (Value.int .i64 0)).drop (l.tn * 4)) ++ ((natsI (firstS l).ps ++ (List.replicate 4 (Value.int .i64 0)).drop l.tn) ++ (List.replicate 40 (Value.int .i64 0) ++ (List.replicate 96 (Value.int .i64 0) ++ [Value.int .i64 a, Value.int .i64 b]))))) = nodL h l.tn l.wn (rootN l) a b := by
 rw [pad_zero (by rw [ints_len, hg.w]) hw, pad_zero (by rw [ints_len, hg.r]) (by omega), pad_zero (by rw [natsI_len, hg.p]) hn]
 unfold nodL picV
 have e1 : tL (xAt (rootN l).es) = List.replicate 40 (Value.int .i64 0) := rfl
 have e2 : lastL (lastE (rootN l).es) = List.replicate 96 (Value.int .i64 0) := rfl
 rw [e1, e2]
 simp only [List.append_assoc]
 rfl
theorem kid_end {l : Lit} {S S' : LS} (hg : GoodS l S) (hg' : GoodS l S') (h : SH) (rest : List Value) : stL h l.tn l.wn ++ ((ints S'.ws ++ (padV 6 (ints S.ws)).drop l.wn) ++ ((ints S'.rs ++ (padV 16 (ints S.rs)).drop (l.tn * 4)) ++ ((natsI S'.ps ++ (padV 4 (natsI S.ps)).drop l.tn) ++ rest))) = stL h l.tn l.wn ++ (padV 6 (ints S'.ws) ++ (padV 16 (ints S'.rs) ++ (padV 4 (natsI S'.ps) ++ rest))) := by
 rw [pad_drop (by rw [ints_len, hg'.w]) (by rw [ints_len, hg.w]), pad_drop (by rw [ints_len, hg'.r]) (by rw [ints_len, hg.r]), pad_drop (by rw [natsI_len, hg'.p]) (by rw [natsI_len, hg.p])]
theorem pic_split (s : List Value) (x : Nd) (r : List Value) : s ++ (picV x ++ r) = s ++ (padV 6 (ints x.S.ws) ++ (padV 16 (ints x.S.rs) ++ (padV 4 (natsI x.S.ps) ++ (tL (xAt x.es) ++ (lastL (lastE x.es) ++ r))))) := by
 unfold picV
 simp only [List.append_assoc]
theorem nb_of {W : World} {g : Nat} {l : Lit} {h : SH} {S' : LS} {es : List Ev} {r : List Value} (hg : GoodS l S') (hn : l.tn <= 4) (hw : l.wn <= 6) (hb : Blk W g 105 (stL h l.tn l.wn ++ (padV 6 (ints S'.ws) ++ (padV 16 (ints S'.rs) ++ (padV 4 (natsI S'.ps) ++ (tL (xAt es) ++ (lastL (lastE es) ++ r))))))) : NB W g (stL h l.tn l.wn ++ (padV 6 (ints S'.ws) ++ (padV 16 (ints S'.rs) ++ padV 4 (natsI S'.ps)))) r (xAt es) (lastE es) := by
 refine ⟨?_, ?_⟩
 ·simp only [List.length_append]
  rw [padV_len (by rw [ints_len, hg.w]; exact hw), padV_len (by rw [ints_len, hg.r]; omega), padV_len (by rw [natsI_len, hg.p]; exact hn)]
  rfl
 ·simp only [List.append_assoc] at hb ⊢
  exact hb
theorem blk_of {W : World} {g : Nat} {l : Lit} {h : SH} {y : Nd} {r : List Value} {x : TS} {la : Int -> Nat -> Nat -> Int} (hx : x = xAt y.es) (hla : lastL la = lastL (lastE y.es)) (hb : NB W g (stL h l.tn l.wn ++ (padV 6 (ints y.S.ws) ++ (padV 16 (ints y.S.rs) ++ padV 4 (natsI y.S.ps)))) r x la) : Blk W g 105 (stL h l.tn l.wn ++ (picV y ++ r)) := by
 have h9 := hb.b
 rw [hla, hx] at h9
 rw [pic_split]
 simp only [List.append_assoc] at h9 ⊢
 exact h9
theorem esN_none {l : Lit} {x : Nd} {t : Nat} (h : evOf l x.S (tnB t) = none) : (kidN l x t).es = x.es := by
 show esN l x.S (tnB t) x.es = x.es
 unfold esN
 rw [h]
 simp
theorem esN_some {l : Lit} {x : Nd} {t : Nat} {e : Ev} (h : evOf l x.S (tnB t) = some e) : (kidN l x t).es = x.es ++ [e] := by
 show esN l x.S (tnB t) x.es = _
 unfold esN
 rw [h]
 rfl
theorem pic_mem {l : Lit} {ns : List Nd} {y : Nd} (hns : ∀ x ∈ ns, OkN l x) (hy : OkN l y) (hn : l.tn <= 4) (hw : l.wn <= 6) : picV y ∈ ns.map picV ↔ (ns.map (keyN l)).contains (keyN l y) = true := by
 rw [List.contains_iff_mem, List.mem_map, List.mem_map]
 constructor
 ·rintro ⟨a, ha, he⟩
  exact ⟨a, ha, (picV_key (hns a ha) hy hn hw).1 he⟩
 ·rintro ⟨a, ha, he⟩
  exact ⟨a, ha, (picV_key (hns a ha) hy hn hw).2 he⟩
theorem OkNs.mem {l : Lit} {ns : List Nd} (h : OkNs l ns) : ∀ x ∈ ns, OkN l x := fun x hx => by
 obtain ⟨i, hi⟩ := List.mem_iff_getElem?.1 hx
 exact (h i x hi).1
theorem pfree_any (l : Lit) (w : World) (h : LitAt w w.heap.size l) (hok : okLit l = true) (hwf : WfL l) :
  Calls Tryz.prog 8 #[litV l] w (FreP l (freeN l) w) := by
 obtain ⟨n1, n2, n3, n4⟩ := okLit_num hok
 have HRoot := Lh (OkNs.root (l := l) h.wlen)
 have HTl := Lh h.tlen
 have HCl : Hid (∀ y ∈ l.th, y.2.length = y.1.2.1) := Lh fun y hy => h.clen hy
 have HB0 : Hid (Blk (w.alloc (.cells #[.slice l.wA l.wn l.wk, .slice l.tA l.tn l.tk] 25)) w.heap.size 25 (litL l)) := Lh (Blk.new _ _ _)
 have HW0 : Hid (Below w.heap.size w (w.alloc (.cells #[.slice l.wA l.wn l.wk, .slice l.tA l.tn l.tk] 25))) := Lh ((Below.refl _ _).alloc (Nat.le_refl _) _)
 obtain ⟨tb, to', hta, htb, _⟩ := h.heads n1
 have Hta := Lh hta
 have HL := Lh h
 have HOk := Lh hok
 have HWf := Lh hwf
 clear h hok hwf hta
 obtain ⟨ind, hind, hindz, hinds, hindb⟩ := info_parts info_nd
 go_enter Tryz.func8, Tryz.ntmps8
 go_upto_region 1 with fail
 generalize w.alloc (.cells #[.slice l.wA l.wn l.wk, .slice l.tA l.tn l.tk] 25) = w0 at HB0 HW0 ⊢
 have q0 := HB0.o.cell (i := 0) rfl
 have q1 := HB0.o.cell (i := 1) rfl
 go_wp2_with fail
 refine (begin_ok l w0 ((HL.o.keep HW0.o).up HW0.o.size) HOk.o).mono ?_
 rintro e w1 ⟨h1, rfl, hn1, hs1, hb1⟩
 have HW1 := Lh (HW0.o.trans (hb1.mono HW0.o.size))
 have HB1 := Lh (HB0.o.below hb1 HB0.o.lt)
 have HS1 := Lh hs1
 have hz0 := HB0.o.lt
 have hz1 := hb1.size
 have b1 : ((0 : Int) != 0) = false := rfl
 clear hb1 hn1 hs1 q0 q1
 go_upto_region 4 with fail
 obtain ⟨g5, hg5⟩ : ∃ g5, g5 = w1.heap.size := ⟨_, rfl⟩
 obtain ⟨w2, hw2, HT2, HX2⟩ : ∃ Z9, Z9 = w1.alloc (.cells #[.slice (some ⟨h1.gw, 0, none⟩) l.wn h1.kw, .slice (some ⟨h1.gr, 0, none⟩) l.tn h1.kr, .slice (some ⟨h1.gp, 0, none⟩) l.tn h1.kp, .slice (some ⟨h1.gb, 0, none⟩) l.tn h1.kb] 77) /\ Hid (Blk Z9 g5 77 (stL h1 l.tn l.wn)) /\ Hid (Below w1.heap.size w1 Z9) := ⟨_, rfl, Lh (by rw [hg5]; exact Blk.new _ _ _), Lh ((Below.refl _ _).alloc (Nat.le_refl _) _)⟩
 rw [<- hw2, <- hg5]
 have hz2 : w.heap.size < w2.heap.size := by have := HX2.o.size; omega
 clear hw2 b1
 refine wp_region_lit ?_
 refine wpList_load_row rfl _ _ rfl g5 rfl 77 _ (0, 0) _ HT2.o Tryz.underlying77 rfl size_lst ?_
 obtain ⟨L0, hL0⟩ : ∃ L0 : List Value, L0 = stL h1 l.tn l.wn ++ (List.replicate 162 (Value.int .i64 0) ++ [Value.int .i64 (-1), Value.int .i64 0]) := ⟨_, rfl⟩
 refine wpList_build_start rfl _ _ rfl (stL h1 l.tn l.wn) rfl (-1) rfl rfl L0 hL0 ?_
 have hL0l : L0.length = 168 := by rw [hL0]; rfl
 have hL0o : L0.toArray.all (·.oneCell') = true := by rw [hL0]; simp [Value.oneCell']
 refine Great.wpList_allocTo rfl _ rfl _ (.cells zeroNd.toArray 105) (exec_alloc_nd rfl) ?_
 have hx3 : Blk (w2.alloc (.cells zeroNd.toArray 105)) w2.heap.size 105 zeroNd := Blk.new _ _ _
 refine wpList_store_row rfl _ _ _ rfl w2.heap.size L0.toArray rfl rfl 105 _ hx3 (by rw [size_nod, List.size_toArray, hL0l]) (by rw [List.size_toArray, List.size_toArray, hL0l]; rfl) hL0o ?_
 (try simp only [Act.put])
 go_upto_region 5 with fail
 obtain ⟨g7, hg7⟩ : ∃ g7, g7 = w2.heap.size := ⟨_, rfl⟩
 obtain ⟨w3, hw3, HN3, HX3⟩ : ∃ Z9, Z9 = (w2.alloc (.cells zeroNd.toArray 105)).setRow w2.heap.size L0.toArray /\ Hid (Blk Z9 g7 105 L0) /\ Hid (Below w1.heap.size w1 Z9) :=
  ⟨_, rfl, Lh (by rw [hg7]; exact setRow_heap _ _ _ L0.toArray _ _ hx3), Lh (rowB (HX2.o.alloc HX2.o.size _) HX2.o.size)⟩
 rw [<- hw3, <- hg7]
 have hg7l : w1.heap.size <= g7 := by rw [hg7]; exact HX2.o.size
 have HL0 := Lh hL0
 clear hw3 hg7 hx3 HX2 HT2 hL0 hL0l hL0o
 go_upto_region 6 with (go_at_call 25; go_must (refine (fill_any w3 g7 h1 l.tn l.wn (firstS l) _ _ _ _ (by have h9 := HN3.o; rw [HL0.o, start_split] at h9; exact h9) (HS1.o.on HX3.o) (by simp) (by simp) (by simp) n2 n4).mono ?_; rintro e w4 ⟨rfl, hN4, hS4, hF4⟩))
 rw [start_end (HRoot.o 0 _ rfl).1.good n2 n4] at hN4
 have HN4 := Lh hN4
 have HS4 := Lh hS4
 have hb4 : Below w1.heap.size w1 w4 := HX3.o.trans (hF4.to_below HX3.o.size (fun q hq => by rw [hq]; exact hg7l))
 have HB4 := Lh hb4
 have HNl : Hid ((nodL h1 l.tn l.wn (rootN l) (-1) 0).length = 168) := Lh (nodL_len (HRoot.o 0 _ rfl).1.good n2 n4 _ _ _)
 clear hN4 hS4 hF4 hb4 HN3 HX3
 refine wp_region_lit ?_
 refine wpList_load_row rfl _ _ rfl g7 rfl 105 _ (0, 0) _ HN4.o Tryz.underlying105 rfl (by rw [size_nod, List.size_toArray, HNl.o]) ?_
 refine wpList_nodSlice rfl _ rfl (nodL h1 l.tn l.wn (rootN l) (-1) 0) HNl.o rfl ?_
 (try simp only [Act.put])
 go_upto_region 7 with fail
 obtain ⟨g8, hg8⟩ : ∃ g8, g8 = w4.heap.size := ⟨_, rfl⟩
 obtain ⟨w5, hw5, HO5, HX5, HN5⟩ : ∃ Z9, Z9 = w4.alloc (.cells (nodL h1 l.tn l.wn (rootN l) (-1) 0).toArray 105) /\ Hid (Z9.ownsRow w.heap.size 105 168 (.slice (some ⟨g8, 0, none⟩) 1 1) 1 (nodL h1 l.tn l.wn (rootN l) (-1) 0)) /\ Hid (Below w1.heap.size w1 Z9) /\ Hid (Blk Z9 g7 105 (nodL h1 l.tn l.wn (rootN l) (-1) 0)) :=
  ⟨_, rfl, Lh (by rw [hg8]; exact own_new (by rw [HNl.o]) (by have := HB4.o.size; omega) (by simp [maxLen])), Lh (HB4.o.alloc HB4.o.size _), Lh (HN4.o.alloc _)⟩
 rw [<- hw5, <- hg8]
 have hg8l : w1.heap.size <= g8 := by rw [hg8]; exact HB4.o.size
 have hg8u : g8 < w5.heap.size := by rw [hw5, hg8]; simp
 clear hw5 hg8 HB4 HN4 HS4
 obtain ⟨gm, hgm⟩ : ∃ gm, gm = w5.heap.size := ⟨_, rfl⟩
 have hpicl : (picV (rootN l)).length = 162 := picV_lenG (HRoot.o 0 _ rfl).1.good n2 n4
 have hpico : IntsOk (picV (rootN l)) := picV_ok (HRoot.o 0 _ rfl).1 (WfS.first HWf.o) HOk.o HTl.o HCl.o (Nat.zero_le _)
 obtain ⟨w6, hput, hpm6, hgb6⟩ := (PicMap.made w5).put (by simp [maxLen]) hpicl hpico
 rw [<- hgm] at hput hpm6 hgb6
 have hr5 : (w5.alloc (.map #[] 0)).rangeAt g7 4 (picV (rootN l)) := ((HN5.o.alloc (.map #[] 0)).pic (r := [Value.int .i64 (-1), Value.int .i64 0]) rfl)
 have HPl6 := Lh hpicl
 have HR5 := Lh hr5
 have HPm6 := Lh hpm6
 have HGb6 := Lh hgb6
 clear hpico hpm6 hgb6 hr5 hpicl
 have hmm : (Instr.makeMap 107 none).run Tryz.prog w5 = .ok (.map (some gm)) (w5.alloc (.map #[] 0)) := by rw [hgm]; rfl
 have Hgm := Lh hgm
 clear hgm
 go_wp2_with fail
 refine wp_load_mid 103 _ rfl g7 4 rfl (picV (rootN l)) _ HR5.o Tryz.underlying103 rfl (by rw [size_pic, HPl6.o]) ?_
 go_wp2_with fail
 clear hput HR5 HPl6 hmm
 have hgm := Hgm.o
 have hI6 : PfI l w w6 gm [rootN l] [h1] [mkWN (HRoot.o 0 _ rfl).1.good n2 n4 h1 (-1) 0] (.slice (some ⟨g8, 0, none⟩) 1 1) := by
  have hA : w5.grownBy (w5.alloc (.map #[] 0)) (some gm) := World.grownBy_alloc w5 _ _
  have hg := hA.trans HGb6.o
  have hbel : Below w.heap.size w w5 := HW1.o.trans (HX5.o.mono HW1.o.size)
  have hw15 := HX5.o.size
  have hS5 := HS1.o.on HX5.o
  exact {
   bel := hbel.grown hg hbel.size (fun q hq => by injection hq with hq; omega)
   gmB := by omega
   lit := (HB1.o.below HX5.o HB1.o.lt).grown hg (fun e => by injection e with e; omega)
   hl := rfl
   wl := rfl
   own := by
    have h9 := HO5.o.kept hg (Or.inr (fun e => by have e' : some g8 = some gm := e; injection e' with e'; omega))
    show World.ownsRow _ _ _ _ _ _ ([mkWN (HRoot.o 0 _ rfl).1.good n2 n4 h1 (-1) 0].flatMap WN.cs)
    rw [List.flatMap_cons, List.flatMap_nil, List.append_nil]
    exact h9
   node := fun j x h p e1 e2 e3 => by
    cases j with
    | zero =>
     simp at e1 e2 e3
     subst e1 e2 e3
     refine ⟨rfl, rfl, hS5.gbr hg ?_, WfS.first HWf.o⟩
     rintro g (rfl | rfl | rfl | rfl) e <;> injection e with e
     ·have := hS5.w.lt; omega
     ·have := hS5.r.lt; omega
     ·have := hS5.p.lt; omega
     ·have := hS5.b.lt; omega
    | succ j => simp at e1
   par := fun j p e3 => by
    cases j with
    | zero =>
     simp at e3
     subst e3
     exact Or.inl ⟨rfl, rfl⟩
    | succ j => simp at e3
   ok := HRoot.o
   map := HPm6.o
   ap := fun e => by have e' : some gm = some g8 := e; injection e' with e'; omega }
 have HI6 := Lh hI6
 clear hI6 HPm6 HGb6 HO5 HX5 HN5 HNl HS1 HB1 HW1 hgm hg8l hg8u hg7l hz0 hz1 hz2 hg5
 go_wp2_with fail
 go_loopg [8, 10] 30001 (fun gk s8 s10 wr => ∃ (i : Nat) (ns : List Nd) (hs : List SH) (ws : List WN) (v9 : Value), s8 = v9 /\ s10 = .int .i64 i /\ gk + i = 30001 /\ i <= ns.length /\ ns.length <= 30000 /\ Hid (freeN l = bfs l gk ns i) /\ Hid (PfI l w wr gm ns hs ws v9))
 case atStart => exact ⟨0, _, _, _, _, rfl, rfl, rfl, Nat.zero_le _, by simp, Lh rfl, HI6⟩
 case round =>
  obtain ⟨i, ns, hs, ws, v9, hv9, rfl, hgk, hin, hnm, HF, HI⟩ := hrel
  subst hv9
  obtain ⟨AN, kN, hvN, hkN1, hkN2⟩ := own_form HI.o.own
  subst hvN
  by_cases hlt : i < ns.length
  ·have e1 : (i : Int) < ns.length := by omega
   have e0 : (0 : Int) <= i := by omega
   have d1 : decide (i < ns.length) = true := by simpa using hlt
   obtain ⟨x, hx⟩ := at_lt hlt
   have q0 := HI.o.lit.cell (i := 0) rfl
   have q1 : wr.cell? ⟨w.heap.size, 1, none⟩ = some (.slice (some ⟨tb, to', none⟩) l.tn l.tk) := by rw [<- Hta.o]; exact HI.o.lit.cell rfl
   have HX := Lh hx
   clear hx
   go_wp2_with fail
   clear q0 q1 e1 d1
   obtain ⟨ga, rfl⟩ : ∃ ga : Nat, ga = gk := ⟨_, rfl⟩
   obtain ⟨wo, rfl⟩ : ∃ wo : World, wo = wr := ⟨_, rfl⟩
   obtain ⟨ns0, rfl⟩ : ∃ ns0 : List Nd, ns0 = ns := ⟨_, rfl⟩
   have HX0 := HX
   go_loopg [8, 43] l.tn (fun gk s8 s43 wr => ∃ (t : Nat) (ns : List Nd) (hs : List SH) (ws : List WN) (v9 : Value), s8 = v9 /\ s43 = .int .i64 t /\ gk + t = l.tn /\ i < ns.length /\ Hid (ns[i]? = some x) /\ ns.length <= 30000 /\ Hid (brow l x l.tn ns0 0 = brow l x gk ns t) /\ Hid (PfI l w wr gm ns hs ws v9))
   case atStart => exact ⟨0, _, _, _, _, rfl, rfl, rfl, hlt, HX, hnm, Lh rfl, HI⟩
   case round =>
    clear HI HX hlt hin hnm hkN1 hkN2
    obtain ⟨t, ns, hs, ws, v9, hv9, rfl, hgt, hin, HX, hnm, HBr, HI⟩ := hrel
    subst hv9
    obtain ⟨AN, kN, hvN, hkN1, hkN2⟩ := own_form HI.o.own
    subst hvN
    by_cases hlt : t < l.tn
    ·have e1 : (t : Int) < l.tn := by omega
     have e2 : (0 : Int) <= t := by omega
     have d1 : decide (t < l.tn) = true := by simpa using hlt
     obtain ⟨gn, hgn, _, hrwN⟩ := Rw.of_own HI.o.own (by omega)
     subst hgn
     obtain ⟨hh, hhh⟩ := at_lt (show i < hs.length by rw [HI.o.hl]; exact hin)
     obtain ⟨p, hp⟩ := at_lt (show i < ws.length by rw [HI.o.wl]; exact hin)
     obtain ⟨hpc, hpw, hst, hwfs⟩ := HI.o.node i x hh p HX.o hhh hp
     have hOkx := (HI.o.ok i x HX.o).1
     have hxlen : x.es.length <= 30000 := by have := hOkx.le; have := (HI.o.ok i x HX.o).2; omega
     have hcells : ∀ j v, p.cs[j]? = some v -> wr.cell? ⟨gn, i * 168 + j, none⟩ = some v := fun j v hv => hrwN.cell ((wn_at hp (by have := (List.getElem?_eq_some_iff.1 hv).1; rw [p.len] at this; exact this)).trans hv)
     rw [hpc] at hcells
     have HNd : Hid (∀ j v, (stL hh l.tn l.wn)[j]? = some v -> wr.cell? ⟨gn, i * 168 + j, none⟩ = some v) := Lh fun j v hv => hcells j v (by unfold nodL; rw [List.getElem?_append_left (List.getElem?_eq_some_iff.1 hv).1]; exact hv)
     have HPicW : Hid (∀ j v, (picV x)[j]? = some v -> wr.cell? ⟨gn, i * 168 + 4 + j, none⟩ = some v) := Lh fun j v hv => by
      rw [Nat.add_assoc]
      refine hcells (4 + j) v ?_
      unfold nodL
      have hj := (List.getElem?_eq_some_iff.1 hv).1
      rw [List.getElem?_append_right (by show 4 <= 4 + j; omega), show 4 + j - (stL hh l.tn l.wn).length = j from by show 4 + j - 4 = j; omega, List.getElem?_append_left hj]
      exact hv
     have HgnL := Lh hrwN.lt
     have HSt := Lh hst
     have HWx := Lh hwfs
     have HOx := Lh hOkx
     have HHi := Lh hhh
     have HPi := Lh hp
     have HLb := Lh HI.o.lit
     have HPl := Lh (picV_lenG hOkx.good n2 n4)
     obtain ⟨y9, hy9⟩ := at_lt (show t < l.th.length by rw [HTl.o]; exact hlt)
     have hLw := HL.o.keep HI.o.bel
     obtain ⟨tb2, to2, hta2, htb2, htc⟩ := hLw.head hy9
     rw [Hta.o] at hta2
     injection hta2 with hta2
     injection hta2 with e1' e2'
     subst e1' e2'
     have hcl := HCl.o _ (List.mem_of_getElem? hy9)
     have hpl := hOkx.good.le t hlt
     rw [codeOf_at hy9, hcl] at hpl
     have hc10 := (okLit_code HOk.o hy9).1
     have hpick : pickS l x.S (tnB t) = y9.2[x.S.p t]? := by
      unfold pickS tnB
      dsimp only
      rw [if_pos ⟨e2, e1, rfl⟩, Int.toNat_natCast, codeOf_at hy9]
     have hcl2 : y9.2.length = y9.1.2.1 := hcl
     obtain ⟨⟨cA, cn, ck⟩, code⟩ := y9
     dsimp only at htc hpl hc10 hpick hcl2
     have HPick := Lh hpick
     have HCl2 := Lh hcl2
     have hpt := HSt.o.place (LS.p_at (S := x.S) (t := t) (by rw [hOkx.good.p]; exact hlt))
     have s2 : wr.cell? ⟨gn, i * 168 + 2, none⟩ = some (.slice (some ⟨hh.gp, 0, none⟩) l.tn hh.kp) := HNd.o 2 _ rfl
     have f1 : (i : Int) < ns.length := by omega
     clear hrwN hst hwfs hOkx hhh hp hy9 hcl hpick hcells hpc hpw hLw hcl2
     by_cases hpn : cn <= x.S.p t
     ·have d4 : ((x.S.p t : Int) == (cn : Int)) = true := by simp; omega
      have d5 : (x.S.p t : Int) = (cn : Int) := by omega
      have d6 : x.S.p t = cn := by omega
      have hno : pickS l x.S (tnB t) = none := by rw [HPick.o, List.getElem?_eq_none_iff, HCl2.o]; exact hpn
      have Hno := Lh hno
      clear hno
      go_wp2_with fail
      go_roundg (gk - 1)
      case measure => omega
      case rel => exact ⟨t + 1, ns, hs, ws, _, rfl, by go_num, by omega, hin, HX, hnm, Lh (HBr.o.trans (by obtain ⟨f, rfl⟩ : ∃ f, gk = f + 1 := ⟨gk - 1, by omega⟩; exact brow_go (bstep_none Hno.o))), HI⟩
     have d4 : ((x.S.p t : Int) == (cn : Int)) = false := by simp; omega
     have d5 : ¬ (x.S.p t : Int) = (cn : Int) := by omega
     have d6 : ¬ x.S.p t = cn := by omega
     obtain ⟨y0, hy0⟩ := at_lt (show x.S.p t < code.length by rw [HCl2.o]; omega)
     have HYes : Hid (pickS l x.S (tnB t) = some y0) := Lh (HPick.o.trans hy0)
     clear hy0
     have HMd : Hid (∀ V, Below wr.heap.size wr V -> Calls Tryz.prog 26 #[.agg #[.slice l.wA l.wn l.wk, .slice (some ⟨tb, to', none⟩) l.tn l.tk], .agg #[.slice (some ⟨hh.gw, 0, none⟩) l.wn hh.kw, .slice (some ⟨hh.gr, 0, none⟩) l.tn hh.kr, .slice (some ⟨hh.gp, 0, none⟩) l.tn hh.kp, .slice (some ⟨hh.gb, 0, none⟩) l.tn hh.kb], .agg #[.int .i64 t, .bool false, .int .i64 0]] V (MadR l x.S (tnB t) V)) := Lh fun V hV => by
      have h9 := made_any l V hh x.S (tnB t) ((HL.o.keep (HI.o.bel.trans (hV.mono HI.o.bel.size))).up (HI.o.bel.trans (hV.mono HI.o.bel.size)).size) (HSt.o.on hV) HOx.o.good HOk.o
      unfold litV at h9
      rw [Hta.o] at h9
      exact h9
     go_upto_region 15 with fail
     clear htc hpt s2 d4 d5 d6 d1
     go_cut [13, 14, 15] (fun s13 s14 s15 wc => ∃ g13 g14 h2 b15, s13 = .pointer (some ⟨g13, 0, none⟩) /\ s14 = .pointer (some ⟨g14, 0, none⟩) /\ s15 = .bool b15 /\ b15 = (evOf l x.S (tnB t)).isSome /\ Hid (R15 l x t wr h2 g13 g14 wc))
     case first =>
      refine wp_region_held_drew (S := fun W => Below wr.heap.size wr W) (by kernel_rfl) ((Below.refl _ _).drew) (fun hS => ?_)
      iterate 8 (refine tkF 0 (v := ?_) ?_ ?_; rotate_left; · (intro W hSw; (try dsimp only at hSw); have hl9 := HLb.o.below hSw HLb.o.lt; have l0 := hl9.cell (i := 0) rfl; have l1 := hl9.cell (i := 1) rfl; rw [Hta.o] at l1; have hn9 := fun j v (hj : (stL hh l.tn l.wn)[j]? = some v) => (hSw.cell (p := ⟨gn, i * 168 + j, none⟩) HgnL.o).trans (HNd.o j v hj); have g0 := hn9 0 _ rfl; have g1 := hn9 1 _ rfl; have g2 := hn9 2 _ rfl; have g3 := hn9 3 _ rfl; simp only [Nat.add_zero] at g0; clear hl9 hn9; go_simp; try with_reducible rfl); try simp only [Act.put, List.setIfInBounds_toArray, List.set_cons_zero, List.set_cons_succ])
      obtain ⟨V0, hV9, HV0⟩ : ∃ Z9, Z9 = wr.drew /\ Hid (Below wr.heap.size wr Z9) := ⟨_, rfl, Lh (Below.refl _ _).drew⟩
      rw [<- hV9]
      clear hV9 hS
      refine rd3 8 13 14 (fun K1 hK1 => ?ga) (fun K1 hK1 => ?gb) (fun K1 hK1 => ?gc)
      case' ga =>
       go_simp
       go_at_call 26
       refine (HMd.o V0 HV0.o).mono ?_
       rintro e V1 ⟨h2, rfl, hnw, hst, hb9⟩
       have HV1 := Lh (HV0.o.trans (hb9.mono HV0.o.size))
       have HNw := Lh (hnw.le HV0.o.size)
       have HSt_V1 := Lh hst
       clear hnw hst hb9
       refine hK1.out _ _ HV1.o (fun hS1 => ?_)
       iterate 4 (refine tkF 9 (v := ?_) ?_ ?_; rotate_left; · (intro W hSw; (try dsimp only at hSw); go_simp; try with_reducible rfl); try simp only [Act.put, List.setIfInBounds_toArray, List.set_cons_zero, List.set_cons_succ])
       refine rd2 13 14 (fun K2 hK2 => ?gab) (fun K2 hK2 => ?gac)
       case' gab =>
        go_simp
        obtain ⟨g13, hg13⟩ : ∃ g13, g13 = V1.heap.size := ⟨_, rfl⟩
        obtain ⟨V2, hZ, HB13_V2, HV2, HSt_V2, hg13w⟩ : ∃ Z9, Z9 = V1.alloc (.cells #[.slice none 0 0, .slice none 0 0, .slice none 0 0, .slice none 0 0] 77) /\ Hid (Blk Z9 g13 77 [.slice none 0 0, .slice none 0 0, .slice none 0 0, .slice none 0 0]) /\ Hid (Below wr.heap.size wr Z9) /\ Hid (StAt Z9 h2 l.tn l.wn (turnS l x.S (tnB t))) /\ wr.heap.size <= g13 :=
         ⟨_, rfl, Lh (by rw [hg13]; exact Blk.new _ _ _), Lh (HV1.o.alloc HV1.o.size _), Lh (HSt_V1.o.on ((Below.refl _ _).alloc (Nat.le_refl _) _)), by rw [hg13]; exact HV1.o.size⟩
        rw [<- hZ, <- hg13]
        clear hZ hg13
        refine hK2.out _ _ HV2.o (fun hS2 => ?_)
        refine rd 14 fun K3 hK3 => ?_
        go_simp
        obtain ⟨g14, hg14⟩ : ∃ g14, g14 = V2.heap.size := ⟨_, rfl⟩
        obtain ⟨V3, hZ, HB14_V3, HV3, HB13_V3, HSt_V3, hg14w, hne⟩ : ∃ Z9, Z9 = V2.alloc (.cells #[.int .i64 0, .int .i64 0, .int .i64 0, .bool false] 109) /\ Hid (Blk Z9 g14 109 [.int .i64 0, .int .i64 0, .int .i64 0, .bool false]) /\ Hid (Below wr.heap.size wr Z9) /\ Hid (Blk Z9 g13 77 [.slice none 0 0, .slice none 0 0, .slice none 0 0, .slice none 0 0]) /\ Hid (StAt Z9 h2 l.tn l.wn (turnS l x.S (tnB t))) /\ wr.heap.size <= g14 /\ g13 ≠ g14 :=
         ⟨_, rfl, Lh (by rw [hg14]; exact Blk.new _ _ _), Lh (HV2.o.alloc HV2.o.size _), Lh (HB13_V2.o.alloc _), Lh (HSt_V2.o.on ((Below.refl _ _).alloc (Nat.le_refl _) _)), by rw [hg14]; exact HV2.o.size, by have := HB13_V2.o.lt; omega⟩
        rw [<- hZ, <- hg14]
        clear hZ hg14
        refine hK3.out _ _ HV3.o (fun hS3 => ?_)
       case' gac =>
        go_simp
        obtain ⟨g14, hg14⟩ : ∃ g14, g14 = V1.heap.size := ⟨_, rfl⟩
        obtain ⟨V2, hZ, HB14_V2, HV2, HSt_V2, hg14w⟩ : ∃ Z9, Z9 = V1.alloc (.cells #[.int .i64 0, .int .i64 0, .int .i64 0, .bool false] 109) /\ Hid (Blk Z9 g14 109 [.int .i64 0, .int .i64 0, .int .i64 0, .bool false]) /\ Hid (Below wr.heap.size wr Z9) /\ Hid (StAt Z9 h2 l.tn l.wn (turnS l x.S (tnB t))) /\ wr.heap.size <= g14 :=
         ⟨_, rfl, Lh (by rw [hg14]; exact Blk.new _ _ _), Lh (HV1.o.alloc HV1.o.size _), Lh (HSt_V1.o.on ((Below.refl _ _).alloc (Nat.le_refl _) _)), by rw [hg14]; exact HV1.o.size⟩
        rw [<- hZ, <- hg14]
        clear hZ hg14
        refine hK2.out _ _ HV2.o (fun hS2 => ?_)
        refine rd 13 fun K3 hK3 => ?_
        go_simp
        obtain ⟨g13, hg13⟩ : ∃ g13, g13 = V2.heap.size := ⟨_, rfl⟩
        obtain ⟨V3, hZ, HB13_V3, HV3, HB14_V3, HSt_V3, hg13w, hne⟩ : ∃ Z9, Z9 = V2.alloc (.cells #[.slice none 0 0, .slice none 0 0, .slice none 0 0, .slice none 0 0] 77) /\ Hid (Blk Z9 g13 77 [.slice none 0 0, .slice none 0 0, .slice none 0 0, .slice none 0 0]) /\ Hid (Below wr.heap.size wr Z9) /\ Hid (Blk Z9 g14 109 [.int .i64 0, .int .i64 0, .int .i64 0, .bool false]) /\ Hid (StAt Z9 h2 l.tn l.wn (turnS l x.S (tnB t))) /\ wr.heap.size <= g13 /\ g13 ≠ g14 :=
         ⟨_, rfl, Lh (by rw [hg13]; exact Blk.new _ _ _), Lh (HV2.o.alloc HV2.o.size _), Lh (HB14_V2.o.alloc _), Lh (HSt_V2.o.on ((Below.refl _ _).alloc (Nat.le_refl _) _)), by rw [hg13]; exact HV2.o.size, by have := HB14_V2.o.lt; omega⟩
        rw [<- hZ, <- hg13]
        clear hZ hg13
        refine hK3.out _ _ HV3.o (fun hS3 => ?_)
      case' gb =>
       go_simp
       obtain ⟨g13, hg13⟩ : ∃ g13, g13 = V0.heap.size := ⟨_, rfl⟩
       obtain ⟨V1, hZ, HB13_V1, HV1, hg13w⟩ : ∃ Z9, Z9 = V0.alloc (.cells #[.slice none 0 0, .slice none 0 0, .slice none 0 0, .slice none 0 0] 77) /\ Hid (Blk Z9 g13 77 [.slice none 0 0, .slice none 0 0, .slice none 0 0, .slice none 0 0]) /\ Hid (Below wr.heap.size wr Z9) /\ wr.heap.size <= g13 :=
        ⟨_, rfl, Lh (by rw [hg13]; exact Blk.new _ _ _), Lh (HV0.o.alloc HV0.o.size _), by rw [hg13]; exact HV0.o.size⟩
       rw [<- hZ, <- hg13]
       clear hZ hg13
       refine hK1.out _ _ HV1.o (fun hS1 => ?_)
       refine rd2 8 14 (fun K2 hK2 => ?gba) (fun K2 hK2 => ?gbc)
       case' gba =>
        go_simp
        go_at_call 26
        refine (HMd.o V1 HV1.o).mono ?_
        rintro e V2 ⟨h2, rfl, hnw, hst, hb9⟩
        have HV2 := Lh (HV1.o.trans (hb9.mono HV1.o.size))
        have HNw := Lh (hnw.le HV1.o.size)
        have HSt_V2 := Lh hst
        have HB13_V2 := Lh (HB13_V1.o.below hb9 HB13_V1.o.lt)
        clear hnw hst hb9
        refine hK2.out _ _ HV2.o (fun hS2 => ?_)
        iterate 4 (refine tkF 9 (v := ?_) ?_ ?_; rotate_left; · (intro W hSw; (try dsimp only at hSw); go_simp; try with_reducible rfl); try simp only [Act.put, List.setIfInBounds_toArray, List.set_cons_zero, List.set_cons_succ])
        refine rd 14 fun K3 hK3 => ?_
        go_simp
        obtain ⟨g14, hg14⟩ : ∃ g14, g14 = V2.heap.size := ⟨_, rfl⟩
        obtain ⟨V3, hZ, HB14_V3, HV3, HB13_V3, HSt_V3, hg14w, hne⟩ : ∃ Z9, Z9 = V2.alloc (.cells #[.int .i64 0, .int .i64 0, .int .i64 0, .bool false] 109) /\ Hid (Blk Z9 g14 109 [.int .i64 0, .int .i64 0, .int .i64 0, .bool false]) /\ Hid (Below wr.heap.size wr Z9) /\ Hid (Blk Z9 g13 77 [.slice none 0 0, .slice none 0 0, .slice none 0 0, .slice none 0 0]) /\ Hid (StAt Z9 h2 l.tn l.wn (turnS l x.S (tnB t))) /\ wr.heap.size <= g14 /\ g13 ≠ g14 :=
         ⟨_, rfl, Lh (by rw [hg14]; exact Blk.new _ _ _), Lh (HV2.o.alloc HV2.o.size _), Lh (HB13_V2.o.alloc _), Lh (HSt_V2.o.on ((Below.refl _ _).alloc (Nat.le_refl _) _)), by rw [hg14]; exact HV2.o.size, by have := HB13_V2.o.lt; omega⟩
        rw [<- hZ, <- hg14]
        clear hZ hg14
        refine hK3.out _ _ HV3.o (fun hS3 => ?_)
       case' gbc =>
        go_simp
        obtain ⟨g14, hg14⟩ : ∃ g14, g14 = V1.heap.size := ⟨_, rfl⟩
        obtain ⟨V2, hZ, HB14_V2, HV2, HB13_V2, hg14w, hne⟩ : ∃ Z9, Z9 = V1.alloc (.cells #[.int .i64 0, .int .i64 0, .int .i64 0, .bool false] 109) /\ Hid (Blk Z9 g14 109 [.int .i64 0, .int .i64 0, .int .i64 0, .bool false]) /\ Hid (Below wr.heap.size wr Z9) /\ Hid (Blk Z9 g13 77 [.slice none 0 0, .slice none 0 0, .slice none 0 0, .slice none 0 0]) /\ wr.heap.size <= g14 /\ g13 ≠ g14 :=
         ⟨_, rfl, Lh (by rw [hg14]; exact Blk.new _ _ _), Lh (HV1.o.alloc HV1.o.size _), Lh (HB13_V1.o.alloc _), by rw [hg14]; exact HV1.o.size, by have := HB13_V1.o.lt; omega⟩
        rw [<- hZ, <- hg14]
        clear hZ hg14
        refine hK2.out _ _ HV2.o (fun hS2 => ?_)
        refine rd 8 fun K3 hK3 => ?_
        go_simp
        go_at_call 26
        refine (HMd.o V2 HV2.o).mono ?_
        rintro e V3 ⟨h2, rfl, hnw, hst, hb9⟩
        have HV3 := Lh (HV2.o.trans (hb9.mono HV2.o.size))
        have HNw := Lh (hnw.le HV2.o.size)
        have HSt_V3 := Lh hst
        have HB13_V3 := Lh (HB13_V2.o.below hb9 HB13_V2.o.lt)
        have HB14_V3 := Lh (HB14_V2.o.below hb9 HB14_V2.o.lt)
        clear hnw hst hb9
        refine hK3.out _ _ HV3.o (fun hS3 => ?_)
        iterate 4 (refine tkF 9 (v := ?_) ?_ ?_; rotate_left; · (intro W hSw; (try dsimp only at hSw); go_simp; try with_reducible rfl); try simp only [Act.put, List.setIfInBounds_toArray, List.set_cons_zero, List.set_cons_succ])
      case' gc =>
       go_simp
       obtain ⟨g14, hg14⟩ : ∃ g14, g14 = V0.heap.size := ⟨_, rfl⟩
       obtain ⟨V1, hZ, HB14_V1, HV1, hg14w⟩ : ∃ Z9, Z9 = V0.alloc (.cells #[.int .i64 0, .int .i64 0, .int .i64 0, .bool false] 109) /\ Hid (Blk Z9 g14 109 [.int .i64 0, .int .i64 0, .int .i64 0, .bool false]) /\ Hid (Below wr.heap.size wr Z9) /\ wr.heap.size <= g14 :=
        ⟨_, rfl, Lh (by rw [hg14]; exact Blk.new _ _ _), Lh (HV0.o.alloc HV0.o.size _), by rw [hg14]; exact HV0.o.size⟩
       rw [<- hZ, <- hg14]
       clear hZ hg14
       refine hK1.out _ _ HV1.o (fun hS1 => ?_)
       refine rd2 8 13 (fun K2 hK2 => ?gca) (fun K2 hK2 => ?gcb)
       case' gca =>
        go_simp
        go_at_call 26
        refine (HMd.o V1 HV1.o).mono ?_
        rintro e V2 ⟨h2, rfl, hnw, hst, hb9⟩
        have HV2 := Lh (HV1.o.trans (hb9.mono HV1.o.size))
        have HNw := Lh (hnw.le HV1.o.size)
        have HSt_V2 := Lh hst
        have HB14_V2 := Lh (HB14_V1.o.below hb9 HB14_V1.o.lt)
        clear hnw hst hb9
        refine hK2.out _ _ HV2.o (fun hS2 => ?_)
        iterate 4 (refine tkF 9 (v := ?_) ?_ ?_; rotate_left; · (intro W hSw; (try dsimp only at hSw); go_simp; try with_reducible rfl); try simp only [Act.put, List.setIfInBounds_toArray, List.set_cons_zero, List.set_cons_succ])
        refine rd 13 fun K3 hK3 => ?_
        go_simp
        obtain ⟨g13, hg13⟩ : ∃ g13, g13 = V2.heap.size := ⟨_, rfl⟩
        obtain ⟨V3, hZ, HB13_V3, HV3, HB14_V3, HSt_V3, hg13w, hne⟩ : ∃ Z9, Z9 = V2.alloc (.cells #[.slice none 0 0, .slice none 0 0, .slice none 0 0, .slice none 0 0] 77) /\ Hid (Blk Z9 g13 77 [.slice none 0 0, .slice none 0 0, .slice none 0 0, .slice none 0 0]) /\ Hid (Below wr.heap.size wr Z9) /\ Hid (Blk Z9 g14 109 [.int .i64 0, .int .i64 0, .int .i64 0, .bool false]) /\ Hid (StAt Z9 h2 l.tn l.wn (turnS l x.S (tnB t))) /\ wr.heap.size <= g13 /\ g13 ≠ g14 :=
         ⟨_, rfl, Lh (by rw [hg13]; exact Blk.new _ _ _), Lh (HV2.o.alloc HV2.o.size _), Lh (HB14_V2.o.alloc _), Lh (HSt_V2.o.on ((Below.refl _ _).alloc (Nat.le_refl _) _)), by rw [hg13]; exact HV2.o.size, by have := HB14_V2.o.lt; omega⟩
        rw [<- hZ, <- hg13]
        clear hZ hg13
        refine hK3.out _ _ HV3.o (fun hS3 => ?_)
       case' gcb =>
        go_simp
        obtain ⟨g13, hg13⟩ : ∃ g13, g13 = V1.heap.size := ⟨_, rfl⟩
        obtain ⟨V2, hZ, HB13_V2, HV2, HB14_V2, hg13w, hne⟩ : ∃ Z9, Z9 = V1.alloc (.cells #[.slice none 0 0, .slice none 0 0, .slice none 0 0, .slice none 0 0] 77) /\ Hid (Blk Z9 g13 77 [.slice none 0 0, .slice none 0 0, .slice none 0 0, .slice none 0 0]) /\ Hid (Below wr.heap.size wr Z9) /\ Hid (Blk Z9 g14 109 [.int .i64 0, .int .i64 0, .int .i64 0, .bool false]) /\ wr.heap.size <= g13 /\ g13 ≠ g14 :=
         ⟨_, rfl, Lh (by rw [hg13]; exact Blk.new _ _ _), Lh (HV1.o.alloc HV1.o.size _), Lh (HB14_V1.o.alloc _), by rw [hg13]; exact HV1.o.size, by have := HB14_V1.o.lt; omega⟩
        rw [<- hZ, <- hg13]
        clear hZ hg13
        refine hK2.out _ _ HV2.o (fun hS2 => ?_)
        refine rd 8 fun K3 hK3 => ?_
        go_simp
        go_at_call 26
        refine (HMd.o V2 HV2.o).mono ?_
        rintro e V3 ⟨h2, rfl, hnw, hst, hb9⟩
        have HV3 := Lh (HV2.o.trans (hb9.mono HV2.o.size))
        have HNw := Lh (hnw.le HV2.o.size)
        have HSt_V3 := Lh hst
        have HB13_V3 := Lh (HB13_V2.o.below hb9 HB13_V2.o.lt)
        have HB14_V3 := Lh (HB14_V2.o.below hb9 HB14_V2.o.lt)
        clear hnw hst hb9
        refine hK3.out _ _ HV3.o (fun hS3 => ?_)
        iterate 4 (refine tkF 9 (v := ?_) ?_ ?_; rotate_left; · (intro W hSw; (try dsimp only at hSw); go_simp; try with_reducible rfl); try simp only [Act.put, List.setIfInBounds_toArray, List.set_cons_zero, List.set_cons_succ])
      all_goals (
       refine rd 15 fun K4 hK4 => ?_
       have hne3 : g14 ≠ g13 := HB14_V3.o.ne HB13_V3.o (by decide)
       refine wp_store_row _ _ _ rfl g13 #[.slice (some ⟨h2.gw, 0, none⟩) l.wn h2.kw, .slice (some ⟨h2.gr, 0, none⟩) l.tn h2.kr, .slice (some ⟨h2.gp, 0, none⟩) l.tn h2.kp, .slice (some ⟨h2.gb, 0, none⟩) l.tn h2.kb] rfl rfl 77 _ HB13_V3.o size_lst rfl (lst_one _ _ _ _ _ _ _ _ _ _ _ _) ?_
       refine hK4.out _ _ (rowB HV3.o hg13w) (fun hS4 => ?_)
       refine rd 16 fun K5 hK5 => ?_
       have hE9 : Blk (V3.setRow g13 #[.slice (some ⟨h2.gw, 0, none⟩) l.wn h2.kw, .slice (some ⟨h2.gr, 0, none⟩) l.tn h2.kr, .slice (some ⟨h2.gp, 0, none⟩) l.tn h2.kp, .slice (some ⟨h2.gb, 0, none⟩) l.tn h2.kb]) g14 109 [.int .i64 0, .int .i64 0, .int .i64 0, .bool false] := HB14_V3.o.kept (rowK hne3)
       obtain ⟨ec, hec⟩ : ∃ ec : Array Value, evO (evOf l x.S (tnB t)) = .agg ec /\ ec.size = 4 /\ ec.all (·.oneCell') = true := evO_agg _
       refine wp_store_row _ _ _ rfl g14 ec rfl hec.1 109 _ hE9 (by rw [size_lev, hec.2.1]) (by rw [hec.2.1]; rfl) hec.2.2 ?_
       refine hK5.out _ _ (rowB (rowB HV3.o hg13w) hg14w) (fun hS5 => ?_)
       refine tkF 17 (v := ?_) ?_ ?_
       rotate_left
       ·(intro W hSw; (try dsimp only at hSw); go_simp; try with_reducible rfl)
       try simp only [Act.put, List.setIfInBounds_toArray, List.set_cons_zero, List.set_cons_succ]
       refine wpAnyH_done (by kernel_rfl) ?_ _
       have HR : Hid (R15 l x t wr h2 g13 g14 ((V3.setRow g13 #[.slice (some ⟨h2.gw, 0, none⟩) l.wn h2.kw, .slice (some ⟨h2.gr, 0, none⟩) l.tn h2.kr, .slice (some ⟨h2.gp, 0, none⟩) l.tn h2.kp, .slice (some ⟨h2.gb, 0, none⟩) l.tn h2.kb]).setRow g14 ec)) := Lh {
        bel := rowB (rowB HV3.o hg13w) hg14w
        b13 := Blk.kept (setRow_heap _ _ _ #[.slice (some ⟨h2.gw, 0, none⟩) l.wn h2.kw, .slice (some ⟨h2.gr, 0, none⟩) l.tn h2.kr, .slice (some ⟨h2.gp, 0, none⟩) l.tn h2.kp, .slice (some ⟨h2.gb, 0, none⟩) l.tn h2.kb] _ _ HB13_V3.o) (rowK (Ne.symm hne3))
        b14 := ⟨ec, hec.1, setRow_heap _ _ _ ec _ _ hE9⟩
        st := (HSt_V3.o.keepRow HB13_V3.o (by decide) (by decide) (by decide)).keepRow hE9 (by decide) (by decide) (by decide)
        nw := HNw.o
        l13 := hg13w
        l14 := hg14w }
       clear hne3 hE9 hec hS4 hS5
       go_wp2_with fail
       go_meet
       exact ⟨g13, g14, h2, _, rfl, rfl, rfl, rfl, HR⟩)
     case rest =>
      obtain ⟨g13, g14, h2, b15, rfl, rfl, rfl, hb15, HR⟩ := hcut
      have Hb15 := Lh hb15
      clear hb15
      obtain ⟨y, rfl⟩ : ∃ y : World, y = wc := ⟨_, rfl⟩
      have HPic : Hid (∀ j v, (picV x)[j]? = some v -> y.cell? ⟨gn, i * 168 + 4 + j, none⟩ = some v) := Lh fun j v hv => (HR.o.bel.cell (p := ⟨gn, i * 168 + 4 + j, none⟩) HgnL.o).trans (HPicW.o j v hv)
      have HgnY : Hid (gn < y.heap.size) := Lh (Nat.lt_of_lt_of_le HgnL.o HR.o.bel.size)
      go_upto_region 16 with fail
      obtain ⟨NL, hNL⟩ : ∃ NL : List Value, NL = stL h2 l.tn l.wn ++ (picV x ++ [Value.int .i64 i, Value.int .i64 t]) := ⟨_, rfl⟩
      have HNL := Lh hNL
      clear hNL
      refine wp_region_held_drew (S := fun W => Below y.heap.size y W) (by kernel_rfl) ((Below.refl _ _).drew) (fun hS => ?_)
      refine tkF 0 (v := .agg #[.slice (some ⟨h2.gw, 0, none⟩) l.wn h2.kw, .slice (some ⟨h2.gr, 0, none⟩) l.tn h2.kr, .slice (some ⟨h2.gp, 0, none⟩) l.tn h2.kp, .slice (some ⟨h2.gb, 0, none⟩) l.tn h2.kb]) ?_ ?_
      ·(intro W hSw; (try dsimp only at hSw); have a9 := HR.o.b13.below hSw HR.o.b13.lt; have a0 := a9.cell (i := 0) rfl; have a1 := a9.cell (i := 1) rfl; have a2 := a9.cell (i := 2) rfl; have a3 := a9.cell (i := 3) rfl; clear a9; go_simp)
      try simp only [Act.put, List.setIfInBounds_toArray, List.set_cons_zero, List.set_cons_succ]
      iterate 4 (refine tkF 1 (v := ?_) ?_ ?_; rotate_left; · (intro W hSw; (try dsimp only at hSw); go_simp; try with_reducible rfl); try simp only [Act.put, List.setIfInBounds_toArray, List.set_cons_zero, List.set_cons_succ])
      refine tkF 5 (v := .agg (picV x).toArray) ?_ ?_
      ·(intro W hSw; (try dsimp only at hSw); exact exec_load_mid 103 _ rfl gn (i * 168 + 4) rfl (picV x) _ (fun j v hv => (hSw.cell (p := ⟨gn, i * 168 + 4 + j, none⟩) HgnY.o).trans (HPic.o j v hv)) Tryz.underlying103 rfl (by rw [size_pic, HPl.o]))
      try simp only [Act.put, List.setIfInBounds_toArray, List.set_cons_zero, List.set_cons_succ]
      iterate 2 (refine tkF 6 (v := ?_) ?_ ?_; rotate_left; · (intro W hSw; (try dsimp only at hSw); go_simp; try with_reducible rfl); try simp only [Act.put, List.setIfInBounds_toArray, List.set_cons_zero, List.set_cons_succ])
      refine tkF 8 (v := .agg NL.toArray) ?_ ?_
      ·(intro W hSw; (try dsimp only at hSw); rw [HNL.o]; exact exec_build_node _ _ _ _ rfl (stL h2 l.tn l.wn) (picV x) rfl HPl.o i t rfl rfl rfl rfl)
      try simp only [Act.put, List.setIfInBounds_toArray, List.set_cons_zero, List.set_cons_succ]
      obtain ⟨Y0, hV9, HY0⟩ : ∃ Z9, Z9 = y.drew /\ Hid (Below y.heap.size y Z9) := ⟨_, rfl, Lh (Below.refl _ _).drew⟩
      rw [<- hV9]
      clear hV9 hS
      refine rd 9 fun K1 hK1 => ?_
      refine wp_alloc_nd rfl ?_
      refine hK1.out _ _ (HY0.o.alloc HY0.o.size _) (fun hS1 => ?_)
      show wpAnyH _ _ _ _ _ _ _ (Act.put _ (some 16) _) _
      simp only [Act.put, List.setIfInBounds_toArray, List.set_cons_zero, List.set_cons_succ]
      refine rd 10 fun K2 hK2 => ?_
      have hx9 : Blk (Y0.alloc (.cells zeroNd.toArray 105)) Y0.heap.size 105 zeroNd := Blk.new _ _ _
      have hl9 : NL.length = 168 := by rw [HNL.o, List.length_append, List.length_append, HPl.o]; rfl
      have ho9 : NL.toArray.all (·.oneCell') = true := by rw [HNL.o]; exact nodL_one (l := l) (x := x) h2 i t
      refine wp_store_row _ _ _ rfl Y0.heap.size NL.toArray rfl rfl 105 _ hx9 (by rw [size_nod, List.size_toArray, hl9]) (by rw [List.size_toArray, List.size_toArray, hl9]; rfl) ho9 ?_
      refine hK2.out _ _ (rowB (HY0.o.alloc HY0.o.size _) HY0.o.size) (fun hS2 => ?_)
      refine wpAnyH_done (by kernel_rfl) ?_ _
      obtain ⟨gm6, hgm6⟩ : ∃ g, g = Y0.heap.size := ⟨_, rfl⟩
      obtain ⟨z, hZ, HNz, HBz, hgz⟩ : ∃ Z9, Z9 = (Y0.alloc (.cells zeroNd.toArray 105)).setRow Y0.heap.size NL.toArray /\ Hid (Blk Z9 gm6 105 NL) /\ Hid (Below y.heap.size y Z9) /\ y.heap.size <= gm6 :=
       ⟨_, rfl, Lh (by rw [hgm6]; exact setRow_heap _ _ _ NL.toArray _ _ hx9), Lh (rowB (HY0.o.alloc HY0.o.size _) HY0.o.size), by rw [hgm6]; exact HY0.o.size⟩
      rw [<- hZ, <- hgm6]
      clear hZ hgm6 hx9 hl9 ho9 hS1 hS2 HY0
      clear HPic HgnY HPicW HNd HgnL
      have HIy := Lh (HI.o.on HR.o.bel)
      have HIz := Lh (HIy.o.on HBz.o)
      have HSz := Lh (HR.o.st.on HBz.o)
      have hgoz : some gm6 ≠ (Value.slice (some ⟨gn, 0, none⟩) ns.length kN).ownBlock := fun e => by have := (HIy.o.own.lt gm6 e.symm).2; omega
      have hgzw : w.heap.size < gm6 := by have := HIy.o.lit.lt; omega
      have hgood2 : GoodS l (turnS l x.S (tnB t)) := turnS_good HOx.o.good _
      have HGd2 := Lh hgood2
      have hsp := HNz.o
      rw [HNL.o, pic_split] at hsp
      go_upto_region 18 with (go_at_call 25; go_must (refine (fill_any z gm6 h2 l.tn l.wn (turnS l x.S (tnB t)) _ _ _ _ hsp HSz.o (padV_len (by rw [ints_len, HOx.o.good.w]; exact n4)) (padV_len (by rw [ints_len, HOx.o.good.r]; omega)) (padV_len (by rw [natsI_len, HOx.o.good.p]; exact n2)) n2 n4).mono ?_; rintro e z2 ⟨rfl, hN2, hS2, hF2⟩))
      rw [kid_end HOx.o.good hgood2] at hN2
      have HI2 := Lh (HIz.o.keepN HNz.o hgzw hgoz hF2)
      have HN2 := Lh hN2
      have HS2 := Lh hS2
      have HF2 := Lh hF2
      have HE2 : Hid (∃ ec : Array Value, evO (evOf l x.S (tnB t)) = .agg ec /\ z2.heap[g14]? = some (.cells ec 109 (0, 0))) := Lh (by
       obtain ⟨ec, h7, h8⟩ := HR.o.b14
       have hl14 : g14 < y.heap.size := (Array.getElem?_eq_some_iff.1 h8).1
       exact ⟨ec, h7, (hF2.block g14 (Nat.lt_of_lt_of_le hl14 HBz.o.size) (fun e => by have e' : g14 = gm6 := e; omega)).trans ((HBz.o.block g14 hl14).trans h8)⟩)
      clear hsp hN2 hS2 hF2 hgood2
      obtain ⟨p9, hp9⟩ := at_lt (show i < ws.length by rw [HI2.o.wl]; exact hin)
      have HPw : Hid ((kidN l x t).way = p9.wy ++ [t]) := Lh (by
       have h9 := (HI2.o.node i x hh p9 HX.o HHi.o hp9).2.1
       show x.way ++ [t] = _
       rw [h9])
      have HPi := Lh hp9
      clear hp9
      go_cut [15, 87] (fun _ s87 wc => ∃ b, s87 = .bool b /\ Hid (raceN (kidN l x t) = b) /\ Hid (Blk wc gm6 105 (stL h2 l.tn l.wn ++ (picV (kidN l x t) ++ [Value.int .i64 i, Value.int .i64 t]))) /\ Hid (PfI l w wc gm ns hs ws (.slice (some ⟨gn, 0, none⟩) ns.length kN)) /\ Hid (StAt wc h2 l.tn l.wn (kidN l x t).S))
      case first =>
       cases hev : evOf l x.S (tnB t) with
       | none =>
        have Hra := Lh (raceN_none HOx.o hev)
        have b5 : b15 = false := by rw [Hb15.o, hev]; rfl
        have HNk : Hid (Blk z2 gm6 105 (stL h2 l.tn l.wn ++ (picV (kidN l x t) ++ [Value.int .i64 i, Value.int .i64 t]))) := Lh (by
         rw [pic_split, esN_none hev]
         exact HN2.o)
        have HSk : Hid (StAt z2 h2 l.tn l.wn (kidN l x t).S) := HS2
        clear hev
        go_wp2_with fail
        go_meet
        exact ⟨false, rfl, Hra, HNk, HI2, HSk⟩
       | some ev =>
        have Hev := Lh hev
        have hwf9 := evOf_wf hev
        have hok9 := evOf_ok HOk.o hev
        have Hwf9 := Lh hwf9
        have b5 : b15 = true := by rw [Hb15.o, hev]; rfl
        have hxl : x.es.length < 1000000 := by have := HOx.o.le; have := (HI.o.ok i x HX.o).2; omega
        have HRa := Lh (raceN_some HOx.o HOk.o hev hxl)
        obtain ⟨et, ek, ea, ew⟩ := ev
        have hNb := nb_of (es := x.es) HGd2.o n2 n4 HN2.o
        have HE3 : Hid (Blk z2 g14 109 [.int .i64 et, .int .i64 ek, .int .i64 ea, .bool ew]) := Lh (by
         obtain ⟨ec, h7, h8⟩ := HE2.o
         rw [hev] at h7
         injection h7 with h7
         rw [<- h7] at h8
         exact h8)
        have a0 := HE3.o.cell (i := 0) rfl
        have a1 := HE3.o.cell (i := 1) rfl
        have a2 := HE3.o.cell (i := 2) rfl
        have a3 := HE3.o.cell (i := 3) rfl
        have het : et < 4 := Nat.lt_of_lt_of_le hok9.1 n2
        have hea : ea < 6 := Nat.lt_of_lt_of_le hok9.2 n4
        have HNb := Lh hNb
        clear hev hwf9 hok9 hNb hxl
        obtain ⟨fnd, hfnd⟩ : ∃ b, foundB (xAt x.es) (lastE x.es) ⟨et, ek, ea, ew⟩ 4 = b := ⟨_, rfl⟩
        have HFd := Lh hfnd
        clear hfnd
        have HRc : Hid (Calls Tryz.prog 27 #[.pointer (some ⟨gm6, 0, none⟩), .agg #[.int .i64 et, .int .i64 ek, .int .i64 ea, .bool ew]] z2 (fun e w' => e = .returned (.bool fnd) /\ Blk w' gm6 105 (stL h2 l.tn l.wn ++ (picV (kidN l x t) ++ [Value.int .i64 i, Value.int .i64 t])) /\ Fr (fun g => g = gm6) z2 w')) := Lh (by
         refine (nraces_any gm6 _ _ _ _ et ek ea ew z2 HNb.o het hea Hwf9.o).mono ?_
         rintro e w' ⟨he, hnb, hfr⟩
         refine ⟨by rw [he, HFd.o], blk_of (y := kidN l x t) ?_ ?_ hnb, hfr⟩
         ·rw [esN_some Hev.o, xAt_snoc]
         ·rw [esN_some Hev.o]
          exact lastU_snoc Hwf9.o)
        go_wp2_with (go_at_call 27; go_must (refine HRc.o.mono ?_; rintro e z3 ⟨rfl, hN3, hF3⟩))
        go_meet
        exact ⟨fnd, rfl, Lh (HRa.o.trans HFd.o), Lh hN3, Lh (HI2.o.keepN HN2.o hgzw hgoz hF3), Lh (HS2.o.keepN HN2.o hF3)⟩
      case rest =>
       obtain ⟨fnd, rfl, HFn, HNk, HIk, HSk⟩ := hcut
       obtain ⟨z3, rfl⟩ : ∃ z3 : World, z3 = wc := ⟨_, rfl⟩
       clear HI2 HN2 HS2 HF2 HE2 HIy HIz HSz HBz HNz HR
       cases fnd with
       | true =>
        have Hra : Hid (raceN (kidN l x t) = true) := HFn
        have hst9 : freeN l = .race (kidN l x t).way := HF.o.trans (by obtain ⟨f, rfl⟩ : ∃ f, ga = f + 1 := ⟨ga - 1, by omega⟩; exact bfs_stop HX0.o (HBr.o.trans (by obtain ⟨f, rfl⟩ : ∃ f, gk = f + 1 := ⟨gk - 1, by omega⟩; exact brow_stop (bstep_race HYes.o Hra.o))))
        have Hst9 := Lh hst9
        clear hst9
        go_upto_region 19 with fail
        have HNl := Lh (nodL_len (x := kidN l x t) HGd2.o n2 n4 h2 i t)
        refine wp_region_lit ?_
        refine wpList_mv rfl _ rfl _ rfl ?_
        refine wpList_load_row rfl _ _ rfl gm6 rfl 105 _ (0, 0) _ HNk.o Tryz.underlying105 rfl (by rw [size_nod, List.size_toArray]; exact congrArg some HNl.o.symm) ?_
        (try simp only [Act.put])
        go_wp2_with (go_at_call 28; go_must (refine (way_any ws (mkWN (x := kidN l x t) HGd2.o n2 n4 h2 i t) (some ⟨gn, 0, none⟩) ns.length kN z3 (Sl.of_own HIk.o.own) HIk.o.par (Or.inr ⟨i, t, p9, rfl, rfl, HPi.o, HPw.o⟩) (by omega) (by have h7 := (HI.o.ok i x HX.o).2; show (x.way ++ [t]).length <= _; rw [List.length_append]; simp; omega)).mono ?_; rintro e z4 ⟨A4, k4, rfl, hown4, hb4⟩))
        have HO4 := Lh hown4
        have HB4 := Lh (HIk.o.bel.trans (hb4.mono HIk.o.bel.size))
        clear hown4 hb4
        go_wp2_with fail
        go_ret3
        rw [Hst9.o]
        exact ⟨A4, k4, rfl, own_lowW HO4.o HIk.o.bel.size, HB4.o⟩
       | false =>
        have Hra : Hid (raceN (kidN l x t) = false) := HFn
        go_upto_region 20 with fail
        have HOk2 := Lh (HOx.o.kid HOk.o hlt Hra.o)
        have HWk := Lh (HWx.o.turn HWf.o (tnB t))
        have HPk := Lh (picV_lenG (x := kidN l x t) HOk2.o.good n2 n4)
        have hklen : (kidN l x t).es.length <= 100000 := by
         have h7 := HOk2.o.le
         have h8 := (HI.o.ok i x HX.o).2
         have h9 : (kidN l x t).way.length = x.way.length + 1 := by show (x.way ++ [t]).length = _; simp
         omega
        have HOi := Lh (picV_ok (x := kidN l x t) HOk2.o HWk.o HOk.o HTl.o HCl.o hklen)
        have hrg : z3.rangeAt gm6 4 (picV (kidN l x t)) := HNk.o.pic rfl
        have HRg := Lh hrg
        have hlk := HIk.o.map.look HPk.o HOi.o
        clear hrg hklen
        by_cases hmem : picV (kidN l x t) ∈ ns.map picV
        ·rw [pmN_in hmem] at hlk
         have Hmem := Lh ((pic_mem HIk.o.ok.mem HOk2.o n2 n4).1 hmem)
         have b9 : ((1 : Int) == 0) = false := rfl
         clear hmem
         go_wp2_with fail
         refine wp_load_mid 103 _ rfl gm6 4 rfl (picV (kidN l x t)) _ HRg.o Tryz.underlying103 rfl (by rw [size_pic, HPk.o]) ?_
         go_wp2_with fail
         go_roundg (gk - 1)
         case measure => omega
         case rel => exact ⟨t + 1, ns, hs, ws, _, rfl, by go_num, by omega, hin, HX, hnm, Lh (HBr.o.trans (by obtain ⟨f, rfl⟩ : ∃ f, gk = f + 1 := ⟨gk - 1, by omega⟩; exact brow_go (bstep_seen HYes.o Hra.o Hmem.o))), HIk⟩
        rw [pmN_out hmem] at hlk
        have Hmem : Hid ((ns.map (keyN l)).contains (keyN l (kidN l x t)) = false) := Lh (by
         cases hc : (ns.map (keyN l)).contains (keyN l (kidN l x t)) with
         | false => rfl
         | true => exact absurd ((pic_mem HIk.o.ok.mem HOk2.o n2 n4).2 hc) hmem)
        have b9 : ((0 : Int) == 0) = true := rfl
        clear hmem
        by_cases hful : ns.length = 30000
        ·have b8 : ((ns.length : Int) == 30000) = true := by simp; omega
         have b7 : (ns.length : Int) = 30000 := by omega
         have hst9 : freeN l = .many := HF.o.trans (by obtain ⟨f, rfl⟩ : ∃ f, ga = f + 1 := ⟨ga - 1, by omega⟩; exact bfs_stop HX0.o (HBr.o.trans (by obtain ⟨f, rfl⟩ : ∃ f, gk = f + 1 := ⟨gk - 1, by omega⟩; exact brow_stop (bstep_many HYes.o Hra.o Hmem.o hful))))
         have Hst9 := Lh hst9
         clear hst9
         go_wp2_with fail
         refine wp_load_mid 103 _ rfl gm6 4 rfl (picV (kidN l x t)) _ HRg.o Tryz.underlying103 rfl (by rw [size_pic, HPk.o]) ?_
         go_wp2_with fail
         go_ret3
         rw [Hst9.o]
         exact ⟨rfl, HIk.o.bel⟩
        have b8 : ((ns.length : Int) == 30000) = false := by simp; omega
        have b7 : ¬ (ns.length : Int) = 30000 := by omega
        have Hful := Lh hful
        go_wp2_with fail
        refine wp_load_mid 103 _ rfl gm6 4 rfl (picV (kidN l x t)) _ HRg.o Tryz.underlying103 rfl (by rw [size_pic, HPk.o]) ?_
        obtain ⟨u1, hup, hpm, hgb⟩ := HIk.o.map.put (by simp only [maxLen]; omega) HPk.o HOi.o
        have HPu := Lh (HIk.o.put hpm hgb)
        have HPm := Lh hpm
        have HGb := Lh hgb
        clear hpm hgb
        go_wp2_with fail
        refine wp_load_mid 103 _ rfl gm6 4 rfl (picV (kidN l x t)) _ HRg.o Tryz.underlying103 rfl (by rw [size_pic, HPk.o]) ?_
        go_upto_region 24 with fail
        clear hup hlk b9 b8 b7
        have HNu := Lh (HNk.o.grown HGb.o (fun e => by injection e with e; exact HNk.o.ngm HIk.o.map e))
        have HSu := Lh (HSk.o.gbm HIk.o.map HGb.o)
        have HNl := Lh (nodL_len (x := kidN l x t) HOk2.o.good n2 n4 h2 i t)
        have hzu := HPu.o.1.size
        refine wp_region_lit ?_
        refine wpList_mv rfl _ rfl _ rfl ?_
        refine wpList_load_row rfl _ _ rfl gm6 rfl 105 _ (0, 0) _ HNu.o Tryz.underlying105 rfl (by rw [size_nod, List.size_toArray]; exact congrArg some HNl.o.symm) ?_
        refine wpList_nodSlice rfl _ rfl (nodL h2 l.tn l.wn (kidN l x t) i t) HNl.o rfl ?_
        refine wpList_app _ rfl _ _ 106 rfl w.heap.size 105 ind (.agg zeroNd.toArray) 168 1408 Tryz.underlying106 hind hindz hinds hindb rfl (by decide) (.slice (some ⟨gn, 0, none⟩) ns.length kN) ns.length (ws.flatMap WN.cs) rfl (HPu.o.2.2.1.alloc _) (u1.heap.size + 1) (some ⟨u1.heap.size, 0, none⟩) 1 1 (nodL h2 l.tn l.wn (kidN l x t) i t) rfl (((Blk.new u1 105 _).sl (by rw [HNl.o])).up (by simp)) (nodL_oneL h2 i t) (ns.length + 1) rfl _ rfl _ rfl (by simp only [maxLen]; omega) (by omega) (by rw [World.size_alloc]; omega) ?_
        intro A9 k9 u2 hown9 hg9 hat9 hk91 hk92
        (try simp only [Act.put])
        have hI9 := HIk.o.snoc (k := kidN l x t) (p := mkWN (x := kidN l x t) HOk2.o.good n2 n4 h2 i t) HPu.o HPm.o HSu.o HWk.o rfl rfl (Or.inr ⟨i, t, p9, rfl, rfl, HPi.o, HPw.o⟩) (HI.o.ok.snoc HOk.o HX.o hlt Hra.o) (World.grownBy_alloc u1 _ _) hg9 hown9 hat9
        have HI9 := Lh hI9
        clear hI9 hown9 hg9 hat9
        go_wp2_with fail
        go_roundg (gk - 1)
        case measure => omega
        case rel => exact ⟨t + 1, ns ++ [kidN l x t], hs ++ [h2], _, _, rfl, by go_num, by omega, by rw [List.length_append]; omega, Lh (by rw [List.getElem?_append_left hin]; exact HX.o), by rw [List.length_append]; simp; omega, Lh (HBr.o.trans (by obtain ⟨f, rfl⟩ : ∃ f, gk = f + 1 := ⟨gk - 1, by omega⟩; exact brow_go (bstep_new HYes.o Hra.o Hmem.o Hful.o))), HI9⟩
    ·obtain rfl : t = l.tn := by omega
     have hg0 : gk = 0 := by omega
     subst hg0
     have d1 : ¬ (l.tn : Int) < l.tn := by omega
     go_wp2_with fail
     go_roundg (ga - 1)
     case measure => omega
     case rel => exact ⟨i + 1, ns, hs, ws, _, rfl, by go_num, by omega, by omega, hnm, Lh (HF.o.trans (by obtain ⟨f, rfl⟩ : ∃ f, ga = f + 1 := ⟨ga - 1, by omega⟩; exact bfs_go (HX0.o) (HBr.o))), HI⟩
  ·obtain rfl : i = ns.length := by omega
   have hfr : freeN l = .free := HF.o.trans (bfs_end (List.getElem?_eq_none (Nat.le_refl _)))
   have Hfr := Lh hfr
   clear hfr
   go_wp2_with fail
   go_ret3
   rw [Hfr.o]
   exact ⟨rfl, HI.o.bel⟩
end Go.Proofs.YtgjdgapfnfhklaaGreat
