/-
reclaimref27.Free: all states of a litmus program gone throu
-/
import Derived.Test.YtgjdgapfnfhklaaGreatRfi
import Derived.Test.YtgjdgapfnfhklaaGreatZ19
import Derived.Deep.MidRow
import Derived.Deep.RegionHeld3
set_option linter.unusedSimpArgs false
set_option linter.unusedVariables false
set_option maxRecDepth 100000
set_option maxHeartbeats 32000000
namespace Go.Proofs.YtgjdgapfnfhklaaGreat
open Go.RowKit
def RfrP (a : Ans) (w : World) (e : Ending) (w' : World) : Prop := match a with
 | .free => e = .returned (.tuple #[.bool true, .slice none 0 0, .bool false]) /\ Below w.heap.size w w'
 | .race wy => ∃ A k, e = .returned (.tuple #[.bool false, .slice A wy.length k, .bool false]) /\ w'.ownsRow w.heap.size 91 3 (.slice A wy.length k) wy.length (tnVals (wy.map tnW)) /\ Below w.heap.size w w'
 | .many => e = .returned (.tuple #[.bool false, .slice none 0 0, .bool true]) /\ Below w.heap.size w w'
theorem put_seen {T : Tr} {k : List Int} (h : TrW T) (hc : T.ks.contains k = true) : (putT T k).2.2 = false /\ (putT T k).1 = T := by
 have hn : T.ks.length ≠ 0 := by
  intro h0
  rw [List.length_eq_zero_iff.1 h0] at hc
  simp at hc
 unfold putT
 rw [if_neg hn]
 cases hs : srch T k T.ks.length 0 with
 | hit i => exact ⟨rfl, rfl⟩
 | miss a r =>
  have h9 := (srch_contains (k := k) h (by omega)).2 a r hs
  rw [hc] at h9
  cases h9
theorem put_new {T : Tr} {k : List Int} (h : TrW T) (hc : T.ks.contains k = false) : (putT T k).2.2 = true /\ (putT T k).1.ks = T.ks ++ [k] := by
 unfold putT
 by_cases hn : T.ks.length = 0
 ·rw [if_pos hn, List.length_eq_zero_iff.1 hn]
  exact ⟨rfl, rfl⟩
 ·rw [if_neg hn]
  cases hs : srch T k T.ks.length 0 with
  | hit i =>
   have h9 := (srch_contains (k := k) h (by omega)).1 i hs
   rw [hc] at h9
   cases h9
  | miss a r => exact ⟨rfl, rfl⟩
theorem flatK_pos {n nw : Nat} {S : LS} {es : List Ev} (hn : 0 < n) : 0 < (flatK n nw S es).length := by
 obtain ⟨m, rfl⟩ : ∃ m, n = m + 1 := ⟨n - 1, by omega⟩
 unfold flatK flat19
 simp only [List.length_append, List.range_succ_eq_map, List.flatMap_cons, List.length_cons]
 omega
theorem info_st27 : (Tryz.prog.info? 80).map (fun i => (i.zero, i.size, i.bytes)) = some (some (.agg #[.slice none 0 0, .slice none 0 0, .slice none 0 0, .slice none 0 0, .slice none 0 0, .slice none 0 0, .slice none 0 0]), 7, 168) := by kernel_rfl
theorem info_wys : (Tryz.prog.info? 28).map (fun i => (i.zero, i.size, i.bytes)) = some (some (.slice none 0 0), 1, 24) := by kernel_rfl
theorem esN_len (l : Lit) (S : LS) (u : Tn) (es : List Ev) : (esN l S u es).length <= es.length + 1 := by
 unfold esN
 rw [List.length_append]
 cases evOf l S u <;> simp
theorem st7_cells (A1 A2 A3 A4 A5 A6 A7 : Option Addr) (n1 n2 n3 n4 n5 n6 n7 k1 k2 k3 k4 k5 k6 k7 : Nat) : ∀ u ∈ [Value.slice A1 n1 k1, .slice A2 n2 k2, .slice A3 n3 k3, .slice A4 n4 k4, .slice A5 n5 k5, .slice A6 n6 k6, .slice A7 n7 k7], u.oneCell' = true := by simp [Value.oneCell']
theorem race_yes {x : Nd} (h : raceN x = true) : 0 < (rcsE x.es x.es.length).length := by
 unfold raceN at h
 cases hr : rcsE x.es x.es.length with
 | nil => rw [hr] at h; cases h
 | cons a l => simp
theorem race_no {x : Nd} (h : raceN x = false) : (rcsE x.es x.es.length).length = 0 := by
 unfold raceN at h
 cases hr : rcsE x.es x.es.length with
 | nil => rfl
 | cons a l => rw [hr] at h; cases h
theorem flatK_len {l : Lit} {x : Nd} (hg : OkN l x) (hn : l.tn <= 4) (hw : l.wn <= 6) : (keyN l x).length <= maxLen := by
 have h1 : ∀ (n : Nat) (f : Nat -> List Int) (c : Nat), (∀ i, (f i).length = c) -> ((List.range n).flatMap f).length = n * c := by
  intro n f c hf
  induction n with
  | zero => simp
  | succ n ih => rw [List.range_succ, List.flatMap_append, List.length_append, ih]; simp [hf, Nat.add_mul]
 unfold keyN flatK flat19 lastK
 simp only [List.length_append, List.length_map, List.length_range]
 rw [h1 l.tn (fun t => [x.S.r t 0, x.S.r t 1, x.S.r t 2, x.S.r t 3, (x.S.p t : Int), 0]) 6 (fun i => rfl), h1 l.tn _ l.tn (fun i => by simp [clkL]), h1 l.wn _ l.tn (fun i => by simp [clkL]), hg.good.w]
 have a1 : l.tn * l.tn <= 4 * 4 := Nat.mul_le_mul hn hn
 have a2 : l.wn * l.tn <= 6 * 4 := Nat.mul_le_mul hw hn
 simp only [maxLen]
 omega
theorem rfree_any (l : Lit) (w : World) (h : LitAt w w.heap.size l) (hok : okLit l = true) :
  Calls Tryz.prog 7 #[litV l] w (RfrP (freeN l) w) := by
 obtain ⟨n1, n2, n3, n4⟩ := okLit_num hok
 have HRoot := Lh (OkNs.root (l := l) h.wlen)
 have HB0 : Hid (Blk (w.alloc (.cells #[.slice l.wA l.wn l.wk, .slice l.tA l.tn l.tk] 25)) w.heap.size 25 (litL l)) := Lh (Blk.new _ _ _)
 have HW0 : Hid (Below w.heap.size w (w.alloc (.cells #[.slice l.wA l.wn l.wk, .slice l.tA l.tn l.tk] 25))) := Lh ((Below.refl _ _).alloc (Nat.le_refl _) _)
 have HL := Lh h
 have HOk := Lh hok
 clear h hok
 obtain ⟨ist, hist, histz, hists, histb⟩ := info_parts info_st27
 obtain ⟨iwy, hiwy, hiwyz, hiwys, hiwyb⟩ := info_parts info_wys
 obtain ⟨itn, hitn, hitnz, hitns, hitnb⟩ := info_parts info_tnW
 go_enter Tryz.func7, Tryz.ntmps7
 go_upto_region 1 with fail
 generalize w.alloc (.cells #[.slice l.wA l.wn l.wk, .slice l.tA l.tn l.tk] 25) = w0 at HB0 HW0 ⊢
 have hz0 := HB0.o.lt
 go_upto_region 2 with fail
 obtain ⟨gt, hgt⟩ : ∃ gt, gt = w0.heap.size := ⟨_, rfl⟩
 obtain ⟨w1, hw1, HT1, HX1⟩ : ∃ Z9, Z9 = w0.alloc (.cells #[.slice none 0 0, .slice none 0 0, .slice none 0 0] 74) /\ Hid (Blk Z9 gt 74 [.slice none 0 0, .slice none 0 0, .slice none 0 0]) /\ Hid (Below w0.heap.size w0 Z9) := ⟨_, rfl, Lh (by rw [hgt]; exact Blk.new _ _ _), Lh ((Below.refl _ _).alloc (Nat.le_refl _) _)⟩
 rw [<- hw1, <- hgt]
 have hgtB : w.heap.size <= gt := by omega
 clear hw1 hgt
 have hL1 := HB0.o.below HX1.o HB0.o.lt
 have q0 := hL1.cell (i := 0) rfl
 have q1 := hL1.cell (i := 1) rfl
 have HLb1 := Lh hL1
 have HX01 := Lh (HW0.o.trans (HX1.o.mono HW0.o.size))
 clear hL1
 go_wp2_with fail
 refine (rb27_any l w1 ((HL.o.keep HX01.o).up HX01.o.size) HOk.o).mono ?_
 rintro e w2 ⟨M, rfl, hr2, hb2⟩
 obtain ⟨vA, vk, hvE, hvk1, hvk2⟩ := own_form hr2.ev
 rw [List.length_nil] at hvE hvk1
 have HvE : Hid (M.vE = .slice vA 0 vk) := Lh hvE
 have HR2 := Lh hr2
 have HX2 := Lh hb2
 unfold rsV
 rw [hvE]
 clear hvE hr2 hb2 q0 q1
 go_upto_region 4 with fail
 obtain ⟨g6, hg6⟩ : ∃ g6, g6 = w2.heap.size := ⟨_, rfl⟩
 obtain ⟨g7, hg7⟩ : ∃ g7, g7 = w2.heap.size + 1 := ⟨_, rfl⟩
 obtain ⟨w4, hw4, HI, HB4, HG4⟩ : ∃ Z9, Z9 = (w2.alloc (.cells #[.slice (some ⟨M.h.gw, 0, none⟩) l.wn M.h.kw, .slice (some ⟨M.h.gr, 0, none⟩) l.tn M.h.kr, .slice (some ⟨M.h.gp, 0, none⟩) l.tn M.h.kp, .slice (some ⟨M.h.gb, 0, none⟩) l.tn M.h.kb, .slice (some ⟨M.gm, 0, none⟩) l.tn M.km, .slice (some ⟨M.gd, 0, none⟩) l.wn M.kd, .slice vA 0 vk] 80)).alloc (.cells #[.slice none 0 0] 28) /\ Hid (RfI l w Z9 gt Tr.nil (.slice none 0 0) (.slice none 0 0) (.slice none 0 0) [] (fun x M' => x = rootN l /\ M' = M) (fun x v => x = rootN l /\ v = .slice none 0 0) [some M] [.slice none 0 0] (.slice (some ⟨g6, 0, none⟩) 1 1) (.slice (some ⟨g7, 0, none⟩) 1 1)) /\ Hid (Below w1.heap.size w1 Z9) /\ Hid (Blk Z9 g6 80 [.slice (some ⟨M.h.gw, 0, none⟩) l.wn M.h.kw, .slice (some ⟨M.h.gr, 0, none⟩) l.tn M.h.kr, .slice (some ⟨M.h.gp, 0, none⟩) l.tn M.h.kp, .slice (some ⟨M.h.gb, 0, none⟩) l.tn M.h.kb, .slice (some ⟨M.gm, 0, none⟩) l.tn M.km, .slice (some ⟨M.gd, 0, none⟩) l.wn M.kd, .slice vA 0 vk]) := by
  have hA : Below w2.heap.size w2 ((w2.alloc (.cells #[.slice (some ⟨M.h.gw, 0, none⟩) l.wn M.h.kw, .slice (some ⟨M.h.gr, 0, none⟩) l.tn M.h.kr, .slice (some ⟨M.h.gp, 0, none⟩) l.tn M.h.kp, .slice (some ⟨M.h.gb, 0, none⟩) l.tn M.h.kb, .slice (some ⟨M.gm, 0, none⟩) l.tn M.km, .slice (some ⟨M.gd, 0, none⟩) l.wn M.kd, .slice vA 0 vk] 80)).alloc (.cells #[.slice none 0 0] 28)) := ((Below.refl _ _).alloc (Nat.le_refl _) _).alloc (by simp) _
  have hB : Below w1.heap.size w1 ((w2.alloc (.cells #[.slice (some ⟨M.h.gw, 0, none⟩) l.wn M.h.kw, .slice (some ⟨M.h.gr, 0, none⟩) l.tn M.h.kr, .slice (some ⟨M.h.gp, 0, none⟩) l.tn M.h.kp, .slice (some ⟨M.h.gb, 0, none⟩) l.tn M.h.kb, .slice (some ⟨M.gm, 0, none⟩) l.tn M.km, .slice (some ⟨M.gd, 0, none⟩) l.wn M.kd, .slice vA 0 vk] 80)).alloc (.cells #[.slice none 0 0] 28)) := HX2.o.trans (hA.mono HX2.o.size)
  have hz1 := HX01.o.size
  have hz2 := HX2.o.size
  have hgl := HT1.o.lt
  have hS : [.slice (some ⟨M.h.gw, 0, none⟩) l.wn M.h.kw, .slice (some ⟨M.h.gr, 0, none⟩) l.tn M.h.kr, .slice (some ⟨M.h.gp, 0, none⟩) l.tn M.h.kp, .slice (some ⟨M.h.gb, 0, none⟩) l.tn M.h.kb, .slice (some ⟨M.gm, 0, none⟩) l.tn M.km, .slice (some ⟨M.gd, 0, none⟩) l.wn M.kd, .slice vA 0 vk] = [some M].flatMap (stC l.tn l.wn) := by
   rw [List.flatMap_cons, List.flatMap_nil, List.append_nil, stC_some HvE.o]
   rfl
  refine ⟨_, rfl, Lh ?_, Lh hB, Lh ?_⟩
  ·exact {
    bel := HX01.o.trans (hB.mono HX01.o.size)
    lit := HLb1.o.below hB HLb1.o.lt
    tr := ⟨{
     blk := HT1.o.below hB HT1.o.lt
     gtB := hgtB
     kK := World.ownsRow_nil _ _ _ _
     kL := World.ownsRow_nil _ _ _ _
     kR := World.ownsRow_nil _ _ _ _
     hl := rfl
     rows := fun i k p e1 => by simp [Tr.nil] at e1
     ap := Or.inl rfl }, TrW.nil⟩
    all := by
     rw [<- hS, hg6]
     have h9 := own_new (W := w2) (B := w.heap.size) (n := 1) (sz := 7) (t := 80) (cs := [.slice (some ⟨M.h.gw, 0, none⟩) l.wn M.h.kw, .slice (some ⟨M.h.gr, 0, none⟩) l.tn M.h.kr, .slice (some ⟨M.h.gp, 0, none⟩) l.tn M.h.kp, .slice (some ⟨M.h.gb, 0, none⟩) l.tn M.h.kb, .slice (some ⟨M.gm, 0, none⟩) l.tn M.km, .slice (some ⟨M.gd, 0, none⟩) l.wn M.kd, .slice vA 0 vk]) rfl (by omega) (by simp [maxLen])
     exact h9.alloc _
    ways := by
     have h9 := own_new (W := w2.alloc (.cells #[.slice (some ⟨M.h.gw, 0, none⟩) l.wn M.h.kw, .slice (some ⟨M.h.gr, 0, none⟩) l.tn M.h.kr, .slice (some ⟨M.h.gp, 0, none⟩) l.tn M.h.kp, .slice (some ⟨M.h.gb, 0, none⟩) l.tn M.h.kb, .slice (some ⟨M.gm, 0, none⟩) l.tn M.km, .slice (some ⟨M.gd, 0, none⟩) l.wn M.kd, .slice vA 0 vk] 80)) (B := w.heap.size) (n := 1) (sz := 1) (t := 28) (cs := [.slice none 0 0]) rfl (by rw [World.size_alloc]; omega) (by simp [maxLen])
     rw [World.size_alloc, <- hg7] at h9
     exact h9
    node := fun x M' h9 => by
     obtain ⟨rfl, rfl⟩ := h9
     refine ⟨(HR2.o.on hA).low hz1, fun g hg => ?_⟩
     rintro (e | e | e | e)
     ·have h8 := HR2.o.foot_new g hg
      omega
     ·cases e
     ·cases e
     ·cases e
    way := fun x v h9 => by
     obtain ⟨rfl, rfl⟩ := h9
     exact World.ownsRow_nil _ _ _ _ }
  ·rw [hg6]
   exact (Blk.new w2 80 [.slice (some ⟨M.h.gw, 0, none⟩) l.wn M.h.kw, .slice (some ⟨M.h.gr, 0, none⟩) l.tn M.h.kr, .slice (some ⟨M.h.gp, 0, none⟩) l.tn M.h.kp, .slice (some ⟨M.h.gb, 0, none⟩) l.tn M.h.kb, .slice (some ⟨M.gm, 0, none⟩) l.tn M.km, .slice (some ⟨M.gd, 0, none⟩) l.wn M.kd, .slice vA 0 vk]).alloc _
 rw [<- hw4, <- hg7, <- hg6]
 clear hw4 hg6 hg7 HT1 HX1 HR2
 have HQ : Hid (∀ T', T'.ks = [keyN l (rootN l)] -> RfQ l T' [rootN l] (fun x M' => x = rootN l /\ M' = M) (fun x v => x = rootN l /\ v = .slice none 0 0) [some M] [.slice none 0 0] 0) := Lh fun T' hT' => {
  tk := hT'
  sl := rfl
  yl := rfl
  nd := fun j x _ hx => by
   cases j with
   | zero => simp at hx; subst hx; exact ⟨M, rfl, rfl, rfl⟩
   | succ j => simp at hx
  wy := fun j x hx => by
   cases j with
   | zero => simp at hx; subst hx; exact ⟨_, rfl, rfl, rfl⟩
   | succ j => simp at hx
  ok := HRoot.o }
 have HSo : Hid (∀ W T vK vL vR ths, RfI l w W gt T vK vL vR ths (fun x M' => x = rootN l /\ M' = M) (fun x v => x = rootN l /\ v = .slice none 0 0) [some M] [.slice none 0 0] (.slice (some ⟨g6, 0, none⟩) 1 1) (.slice (some ⟨g7, 0, none⟩) 1 1) -> W.cell? ⟨w.heap.size, 0, none⟩ = some (.slice l.wA l.wn l.wk) /\ W.cell? ⟨w.heap.size, 1, none⟩ = some (.slice l.tA l.tn l.tk) /\ W.cell? ⟨g6, 0, none⟩ = some (.slice (some ⟨M.h.gw, 0, none⟩) l.wn M.h.kw) /\ W.cell? ⟨g6, 1, none⟩ = some (.slice (some ⟨M.h.gr, 0, none⟩) l.tn M.h.kr) /\ W.cell? ⟨g6, 2, none⟩ = some (.slice (some ⟨M.h.gp, 0, none⟩) l.tn M.h.kp) /\ W.cell? ⟨g6, 3, none⟩ = some (.slice (some ⟨M.h.gb, 0, none⟩) l.tn M.h.kb) /\ W.cell? ⟨g6, 4, none⟩ = some (.slice (some ⟨M.gm, 0, none⟩) l.tn M.km) /\ W.cell? ⟨g6, 5, none⟩ = some (.slice (some ⟨M.gd, 0, none⟩) l.wn M.kd) /\ W.cell? ⟨g6, 6, none⟩ = some (.slice vA 0 vk)) := Lh fun W T vK vL vR ths H => by
  obtain ⟨_, e9, _, hr9⟩ := Rw.of_own H.all (by simp)
  injection e9 with e9
  injection e9 with e9 _
  subst e9
  have hc : ∀ j v, j < 7 -> (stC l.tn l.wn (some M))[j]? = some v -> W.cell? ⟨g6, j, none⟩ = some v := fun j v hj hv => hr9.cell (by have h8 := stC_at (n := l.tn) (nw := l.wn) (l := [some M]) (j := 0) rfl hj; rw [Nat.zero_mul, Nat.zero_add] at h8; exact h8.trans hv)
  exact ⟨H.lit.cell rfl, H.lit.cell rfl, hc 0 _ (by omega) rfl, hc 1 _ (by omega) rfl, hc 2 _ (by omega) rfl, hc 3 _ (by omega) rfl, hc 4 _ (by omega) rfl, hc 5 _ (by omega) rfl, hc 6 _ (by omega) (by rw [stC_some HvE.o]; rfl)⟩
 have HFl : Hid (∀ W, Below w4.heap.size w4 W -> Calls Tryz.prog 20 #[litV l, .agg #[.slice (some ⟨M.h.gw, 0, none⟩) l.wn M.h.kw, .slice (some ⟨M.h.gr, 0, none⟩) l.tn M.h.kr, .slice (some ⟨M.h.gp, 0, none⟩) l.tn M.h.kp, .slice (some ⟨M.h.gb, 0, none⟩) l.tn M.h.kb, .slice (some ⟨M.gm, 0, none⟩) l.tn M.km, .slice (some ⟨M.gd, 0, none⟩) l.wn M.kd, .slice vA 0 vk]] W (FltR (keyN l (rootN l)) W)) := Lh fun W hW => by
  have h9 := flat_any l W w.heap.size (firstS l) [] M ((HL.o.keep (HI.o.bel.trans (hW.mono HI.o.bel.size))).up (HI.o.bel.trans (hW.mono HI.o.bel.size)).size) ((HI.o.on hW).node (rootN l) M ⟨rfl, rfl⟩).1 HOk.o (by simp) (fun e he => by cases he)
  unfold rsV at h9
  rw [HvE.o] at h9
  exact h9
 have HPt : Hid (∀ W g c, Below w4.heap.size w4 W -> Rw W g 3 1 (keyN l (rootN l)).length c (ints (keyN l (rootN l))) -> Calls Tryz.prog 19 #[.pointer (some ⟨gt, 0, none⟩), .slice (some ⟨g, 0, none⟩) (keyN l (rootN l)).length c] W (PutR Tr.nil (keyN l (rootN l)) w.heap.size gt g c (.slice none 0 0) (.slice none 0 0) (.slice none 0 0) [] W)) := Lh fun W g c hW hg =>
  put_any Tr.nil (keyN l (rootN l)) w.heap.size gt g c _ _ _ [] W (HI.o.on hW).tr hg (by simp [Value.ownBlock]) (by simp [Value.ownBlock]) (by simp [Tr.nil]) (HI.o.on hW).bel.size (fun q hq => by simp [Tr.nil] at hq)
 have HKp : Hid (0 < (keyN l (rootN l)).length) := Lh (flatK_pos n1)
 go_region_held3 (fun W => W.cell? ⟨w.heap.size, 0, none⟩ = some (.slice l.wA l.wn l.wk) /\ W.cell? ⟨w.heap.size, 1, none⟩ = some (.slice l.tA l.tn l.tk) /\ W.cell? ⟨g6, 0, none⟩ = some (.slice (some ⟨M.h.gw, 0, none⟩) l.wn M.h.kw) /\ W.cell? ⟨g6, 1, none⟩ = some (.slice (some ⟨M.h.gr, 0, none⟩) l.tn M.h.kr) /\ W.cell? ⟨g6, 2, none⟩ = some (.slice (some ⟨M.h.gp, 0, none⟩) l.tn M.h.kp) /\ W.cell? ⟨g6, 3, none⟩ = some (.slice (some ⟨M.h.gb, 0, none⟩) l.tn M.h.kb) /\ W.cell? ⟨g6, 4, none⟩ = some (.slice (some ⟨M.gm, 0, none⟩) l.tn M.km) /\ W.cell? ⟨g6, 5, none⟩ = some (.slice (some ⟨M.gd, 0, none⟩) l.wn M.kd) /\ W.cell? ⟨g6, 6, none⟩ = some (.slice vA 0 vk)) (first | exact HSo.o _ _ _ _ _ _ hi2 | exact HSo.o _ _ _ _ _ _ hi1 | exact HSo.o _ _ _ _ _ _ (HI.o.on (Below.refl _ _).drew)) (first | (go_at_call 20; refine (HFl.o _ (Below.refl _ _).drew).mono ?_; rintro e y1 ⟨A1, k1, rfl, ho1, hb1⟩; obtain ⟨g1, rfl, hg1, hrw1⟩ := Rw.of_own ho1 HKp.o; have hby : Below w4.heap.size w4 y1 := (Below.refl _ _).drew.trans hb1; have hi1 := HI.o.on hby) | (go_at_call 19; refine (HPt.o _ g1 k1 hby hrw1).mono ?_; rintro e y2 ⟨vK2, vL2, vR2, rfl, ht2, hf2, hq2⟩; have hi2 := (HI.o.on hby).put ht2 hf2 hq2))
 have HI5 := Lh hi2
 have HQ5 := Lh (HQ.o (putT Tr.nil (keyN l (rootN l))).1 rfl)
 clear hi2 hi1 hby hb1 ho1 hg1 hrw1 ht2 hf2 hq2 HQ HSo HFl HPt HKp HI HB4 HG4 HX2 HX01 HLb1 HB0 HW0 HvE hvk1 hvk2
 go_wp2_with fail
 go_loopg [6, 7, 8] 30001 (fun gk s6 s7 s8 wr => ∃ (i : Nat) (ns : List Nd) (T : Tr) (vK vL vR : Value) (ths : List (Nat × Nat)) (PN : Nd -> RM -> Prop) (PW : Nd -> Value -> Prop) (sts : List (Option RM)) (wys : List Value) (v6 v7 : Value), s6 = v6 /\ s7 = v7 /\ s8 = .int .i64 i /\ gk + i = 30001 /\ i <= ns.length /\ 0 < ns.length /\ ns.length <= 30000 /\ Hid (freeN l = bfs l gk ns i) /\ Hid (RfQ l T ns PN PW sts wys i) /\ Hid (RfI l w wr gt T vK vL vR ths PN PW sts wys v6 v7))
 case atStart => exact ⟨0, [rootN l], _, _, _, _, _, _, _, _, _, _, _, rfl, rfl, rfl, rfl, Nat.zero_le _, by simp, by simp, Lh rfl, HQ5, HI5⟩
 case round =>
  clear HI5 HQ5
  obtain ⟨i, ns, T, vK, vL, vR, ths, PN, PW, sts, wys, v6, v7, hv6, hv7, rfl, hgk, hin, hn0, hnm, HF, HQ, HI⟩ := hrel
  subst hv6 hv7
  obtain ⟨A6, k6, hv6, hk61, hk62⟩ := own_form HI.o.all
  obtain ⟨A7, k7, hv7, hk71, hk72⟩ := own_form HI.o.ways
  rw [HQ.o.sl] at hv6 hk61
  rw [HQ.o.yl] at hv7 hk71
  subst hv6 hv7
  by_cases hlt : i < ns.length
  ·have e1 : (i : Int) < ns.length := by omega
   have e0 : (0 : Int) <= i := by omega
   obtain ⟨x, hx⟩ := at_lt hlt
   have HX := Lh hx
   clear hx
   go_wp2_with fail
   clear e1
   obtain ⟨ga, rfl⟩ : ∃ ga : Nat, ga = gk := ⟨_, rfl⟩
   obtain ⟨wo, rfl⟩ : ∃ wo : World, wo = wr := ⟨_, rfl⟩
   obtain ⟨ns0, rfl⟩ : ∃ ns0 : List Nd, ns0 = ns := ⟨_, rfl⟩
   have HX0 := HX
   go_loopg [6, 7, 9] l.tn (fun gk s6 s7 s9 wr => ∃ (t : Nat) (ns : List Nd) (T : Tr) (vK vL vR : Value) (ths : List (Nat × Nat)) (PN : Nd -> RM -> Prop) (PW : Nd -> Value -> Prop) (sts : List (Option RM)) (wys : List Value) (v6 v7 : Value), s6 = v6 /\ s7 = v7 /\ s9 = .int .i64 t /\ gk + t = l.tn /\ i < ns.length /\ ns.length <= 30000 /\ Hid (ns[i]? = some x) /\ Hid (brow l x l.tn ns0 0 = brow l x gk ns t) /\ Hid (RfQ l T ns PN PW sts wys i) /\ Hid (RfI l w wr gt T vK vL vR ths PN PW sts wys v6 v7))
   case atStart => exact ⟨0, _, _, _, _, _, _, _, _, _, _, _, _, rfl, rfl, rfl, rfl, hlt, hnm, HX, Lh rfl, HQ, HI⟩
   case round =>
    clear HI HQ HX hlt hin hnm hn0 hk61 hk62 hk71 hk72
    obtain ⟨t, ns, T, vK, vL, vR, ths, PN, PW, sts, wys, v6, v7, hv6, hv7, rfl, hgt, hin, hnm, HX, HBr, HQ, HI⟩ := hrel
    subst hv6 hv7
    obtain ⟨A6, k6, hv6, hk61, hk62⟩ := own_form HI.o.all
    obtain ⟨A7, k7, hv7, hk71, hk72⟩ := own_form HI.o.ways
    rw [HQ.o.sl] at hv6 hk61
    rw [HQ.o.yl] at hv7 hk71
    subst hv6 hv7
    obtain ⟨g6, hg6, hg6B, _⟩ := Rw.of_own (by have h9 := HI.o.all; rw [HQ.o.sl] at h9; exact h9) (by omega)
    obtain ⟨g7, hg7, hg7B, _⟩ := Rw.of_own (by have h9 := HI.o.ways; rw [HQ.o.yl] at h9; exact h9) (by omega)
    subst hg6 hg7
    have f1 : (i : Int) < ns.length := by omega
    have q0 := HI.o.lit.cell (i := 0) rfl
    have q1 := HI.o.lit.cell (i := 1) rfl
    by_cases hlt : t < l.tn
    ·have e1 : (t : Int) < l.tn := by omega
     have e2 : (0 : Int) <= t := by omega
     obtain ⟨M, hsM, hPN⟩ := HQ.o.nd i x (Nat.le_refl _) HX.o
     obtain ⟨vy, hvy, hPW⟩ := HQ.o.wy i x HX.o
     obtain ⟨hOkx, hwl⟩ := HQ.o.ok i x HX.o
     have hxlen : x.es.length <= 30000 := by have := hOkx.le; omega
     obtain ⟨hrM, hoff⟩ := HI.o.node x M hPN
     obtain ⟨vA, vk, hvE, hvk1, hvk2⟩ := own_form hrM.ev
     obtain ⟨Aw, kw, hvw, hkw1, hkw2⟩ := own_form (HI.o.way x vy hPW)
     subst hvw
     have HRM := Lh hrM
     have HOff := Lh hoff
     have HOx := Lh hOkx
     have HWl := Lh hwl
     have HXl := Lh hxlen
     have HPW := Lh hPW
     have hAll := HI.o.all
     have hWys := HI.o.ways
     rw [HQ.o.sl] at hAll
     rw [HQ.o.yl] at hWys
     obtain ⟨_, eA, _, hrA⟩ := Rw.of_own hAll (by omega)
     obtain ⟨_, eW, _, hrW⟩ := Rw.of_own hWys (by omega)
     injection eA with eA
     injection eA with eA _
     subst eA
     injection eW with eW
     injection eW with eW _
     subst eW
     have hcA : ∀ j v, j < 7 -> (stC l.tn l.wn (some M))[j]? = some v -> wr.cell? ⟨g6, i * 7 + j, none⟩ = some v := fun j v hj hv => hrA.cell ((stC_at hsM hj).trans hv)
     have c0 := hcA 0 _ (by omega) rfl
     have c1 := hcA 1 _ (by omega) rfl
     have c2 := hcA 2 _ (by omega) rfl
     have c3 := hcA 3 _ (by omega) rfl
     have c4 := hcA 4 _ (by omega) rfl
     have c5 := hcA 5 _ (by omega) rfl
     have c6 : wr.cell? ⟨g6, i * 7 + 6, none⟩ = some (.slice vA x.es.length vk) := hcA 6 _ (by omega) (by rw [stC_some hvE]; rfl)
     have cw : wr.cell? ⟨g7, i, none⟩ = some (.slice Aw x.way.length kw) := hrW.cell hvy
     have HCw := Lh cw
     have Hg7l := Lh hrW.lt
     rw [Nat.add_zero] at c0
     have HCp : Hid (∀ W, Below wr.heap.size wr W -> Calls Tryz.prog 21 #[.agg #[.slice (some ⟨M.h.gw, 0, none⟩) l.wn M.h.kw, .slice (some ⟨M.h.gr, 0, none⟩) l.tn M.h.kr, .slice (some ⟨M.h.gp, 0, none⟩) l.tn M.h.kp, .slice (some ⟨M.h.gb, 0, none⟩) l.tn M.h.kb, .slice (some ⟨M.gm, 0, none⟩) l.tn M.km, .slice (some ⟨M.gd, 0, none⟩) l.wn M.kd, .slice vA x.es.length vk]] W (CpR27 l.tn l.wn x.S x.es M W)) := Lh fun W hW => by
      have h9 := copy27_any l.tn l.wn W w.heap.size x.S x.es M (HRM.o.on hW) n1 n2 n3 n4 (by have := HXl.o; omega)
      unfold rsV at h9
      rw [hvE] at h9
      exact h9
     clear hcA hrA hrW hAll hWys hrM hoff hOkx hwl hxlen hPW hvE cw
     go_wp2_with fail
     refine (HCp.o wr (Below.refl _ _)).mono ?_
     rintro e w1 ⟨M1, rfl, hr1, hcs1, hZ1, hb1⟩
     have hx1 : Blk (w1.alloc (.cells #[.slice none 0 0, .slice none 0 0, .slice none 0 0, .slice none 0 0, .slice none 0 0, .slice none 0 0, .slice none 0 0] 80)) w1.heap.size 80 [.slice none 0 0, .slice none 0 0, .slice none 0 0, .slice none 0 0, .slice none 0 0, .slice none 0 0, .slice none 0 0] := Blk.new w1 80 [.slice none 0 0, .slice none 0 0, .slice none 0 0, .slice none 0 0, .slice none 0 0, .slice none 0 0, .slice none 0 0]
     obtain ⟨vA1, vk1, hvE1, hvk11, hvk12⟩ := own_form hr1.ev
     have HvE1 := Lh hvE1
     unfold rsV
     rw [hvE1]
     clear hvE1 c0 c1 c2 c3 c4 c5 c6 HCp q0 q1
     go_upto_region 12 with (refine wpList_store_row rfl _ _ _ rfl w1.heap.size #[.slice (some ⟨M1.h.gw, 0, none⟩) l.wn M1.h.kw, .slice (some ⟨M1.h.gr, 0, none⟩) l.tn M1.h.kr, .slice (some ⟨M1.h.gp, 0, none⟩) l.tn M1.h.kp, .slice (some ⟨M1.h.gb, 0, none⟩) l.tn M1.h.kb, .slice (some ⟨M1.gm, 0, none⟩) l.tn M1.km, .slice (some ⟨M1.gd, 0, none⟩) l.wn M1.kd, .slice vA1 x.es.length vk1] rfl rfl 80 _ hx1 size_st7 rfl (st7_one _ _ _ _ _ _ _ _ _ _ _ _ _ _ _ _ _ _ _ _ _) ?_)
     (try simp only [Act.put])
     go_upto_region 12 with fail
     obtain ⟨gs, hgs⟩ : ∃ gs, gs = w1.heap.size := ⟨_, rfl⟩
     obtain ⟨w2, hw2, HG2, HB2, HR2⟩ : ∃ Z9, Z9 = (w1.alloc (.cells #[.slice none 0 0, .slice none 0 0, .slice none 0 0, .slice none 0 0, .slice none 0 0, .slice none 0 0, .slice none 0 0] 80)).setRow w1.heap.size #[.slice (some ⟨M1.h.gw, 0, none⟩) l.wn M1.h.kw, .slice (some ⟨M1.h.gr, 0, none⟩) l.tn M1.h.kr, .slice (some ⟨M1.h.gp, 0, none⟩) l.tn M1.h.kp, .slice (some ⟨M1.h.gb, 0, none⟩) l.tn M1.h.kb, .slice (some ⟨M1.gm, 0, none⟩) l.tn M1.km, .slice (some ⟨M1.gd, 0, none⟩) l.wn M1.kd, .slice vA1 x.es.length vk1] /\ Hid (Blk Z9 gs 80 (rsL M1 l.tn l.wn)) /\ Hid (Below wr.heap.size wr Z9) /\ Hid (RSB Z9 wr.heap.size l.tn l.wn x.S (xAt x.es) x.es M1) := by
      have hA : Below w1.heap.size w1 ((w1.alloc (.cells #[.slice none 0 0, .slice none 0 0, .slice none 0 0, .slice none 0 0, .slice none 0 0, .slice none 0 0, .slice none 0 0] 80)).setRow w1.heap.size #[.slice (some ⟨M1.h.gw, 0, none⟩) l.wn M1.h.kw, .slice (some ⟨M1.h.gr, 0, none⟩) l.tn M1.h.kr, .slice (some ⟨M1.h.gp, 0, none⟩) l.tn M1.h.kp, .slice (some ⟨M1.h.gb, 0, none⟩) l.tn M1.h.kb, .slice (some ⟨M1.gm, 0, none⟩) l.tn M1.km, .slice (some ⟨M1.gd, 0, none⟩) l.wn M1.kd, .slice vA1 x.es.length vk1]) := rowB ((Below.refl _ _).alloc (Nat.le_refl _) _) (Nat.le_refl _)
      refine ⟨_, rfl, Lh ?_, Lh (hb1.trans (hA.mono hb1.size)), Lh (hr1.on hA)⟩
      rw [hgs]
      unfold rsL
      rw [HvE1.o]
      exact setRow_heap _ _ _ #[.slice (some ⟨M1.h.gw, 0, none⟩) l.wn M1.h.kw, .slice (some ⟨M1.h.gr, 0, none⟩) l.tn M1.h.kr, .slice (some ⟨M1.h.gp, 0, none⟩) l.tn M1.h.kp, .slice (some ⟨M1.h.gb, 0, none⟩) l.tn M1.h.kb, .slice (some ⟨M1.gm, 0, none⟩) l.tn M1.km, .slice (some ⟨M1.gd, 0, none⟩) l.wn M1.kd, .slice vA1 x.es.length vk1] _ _ hx1
     have hgsB : wr.heap.size <= gs := by have := hb1.size; omega
     have HZ1 := Lh hZ1
     have HCs1 := Lh hcs1
     rw [<- hw2, <- hgs]
     clear hw2 hgs hx1 hr1 hb1 hZ1 hcs1 HvE1
     have HLw : Hid (LitAt w w.heap.size l) := HL
     have hL2 := HI.o.lit.below HB2.o HI.o.lit.lt
     have q0 := hL2.cell (i := 0) rfl
     have q1 := hL2.cell (i := 1) rfl
     have HBw2 : Hid (Below w.heap.size w w2) := Lh (HI.o.bel.trans (HB2.o.mono HI.o.bel.size))
     have HT : Hid (Calls Tryz.prog 22 #[litV l, .pointer (some ⟨gs, 0, none⟩), tnV (tnB t)] w2 (Rt27R l wr.heap.size gs x.S x.es (tnB t) M1.Z w2)) := Lh
      (rt27_any l w2 wr.heap.size gs x.S x.es M1 (tnB t) ((HL.o.keep HBw2.o).up HI.o.bel.size) HB2.o.size hgsB HG2.o HR2.o HOx.o.good HOk.o (by have := HXl.o; omega))
     clear hL2
     cases hpk : pickS l x.S (tnB t) with
     | none =>
      go_wp2_with fail
      refine HT.o.mono ?_
      rintro e w3 ⟨rfl, hb3, _⟩
      have HB3 := Lh (HB2.o.trans hb3)
      have HPk := Lh hpk
      rw [hpk]
      clear hb3 hpk q0 q1
      go_wp2_with fail
      go_roundg (gk - 1)
      case measure => omega
      case rel => exact ⟨t + 1, ns, T, vK, vL, vR, ths, PN, PW, sts, wys, _, _, rfl, rfl, by go_num, by omega, hin, hnm, HX, Lh (HBr.o.trans (by obtain ⟨f, rfl⟩ : ∃ f, gk = f + 1 := ⟨gk - 1, by omega⟩; exact brow_go (bstep_none HPk.o))), HQ, Lh (HI.o.on HB3.o)⟩
     | some yi =>
      go_wp2_with fail
      refine HT.o.mono ?_
      rintro e w3 ⟨rfl, hb3, M2, hg3, hr3, hZ3⟩
      rw [hpk]
      have HPk := Lh hpk
      have HB3 := Lh (HB2.o.trans hb3)
      have HI3 := Lh (HI.o.on HB3.o)
      have HG3 := Lh hg3
      have HR3 := Lh hr3
      obtain ⟨m2, hm2⟩ : ∃ m2, m2 = (kidN l x t).es.length := ⟨_, rfl⟩
      obtain ⟨vA2, vk2, hvE2, hvk21, hvk22⟩ := own_form hr3.ev
      have HvE2 : Hid (M2.vE = .slice vA2 m2 vk2) := Lh (by rw [hm2]; exact hvE2)
      have HM2 : Hid ((kidN l x t).es.length = m2) := Lh hm2.symm
      have hm2b : m2 <= 100000 := by
       have h9 := esN_len l x.S (tnB t) x.es
       have h8 := HXl.o
       have h7 : m2 = (esN l x.S (tnB t) x.es).length := hm2
       omega
      have HOff2 : Hid (∀ g, M2.foot g -> g < w3.heap.size /\ ¬ trF gt vK vL vR g) := Lh fun g hg => by
       refine ⟨hr3.foot_lt g hg, fun ht => ?_⟩
       have h1 := HI.o.tr.1.lt g ht
       rcases hr3.foot_ge g hg with h2 | h2
       ·omega
       ·rw [hZ3, HZ1.o] at h2
        exact HOff.o g (RM.foot_cs h2) ht
      have HGl := Lh hg3.lt
      clear hb3 hg3 hr3 hZ3 hm2 hvE2 hpk HT HB2 HR2 HG2 HZ1 HCs1 HBw2 q0 q1
      have hc7 : w3.cell? ⟨g7, i, none⟩ = some (.slice Aw x.way.length kw) := (HB3.o.cell Hg7l.o).trans HCw.o
      have HWy := Lh (Sl.of_own (HI3.o.way x _ HPW.o))
      go_upto_region 15 with (at_builtin; go_must (refine wpList_app _ rfl _ _ 28 rfl w3.heap.size 91 itn (.agg #[.int .i64 0, .bool false, .int .i64 0]) 3 24 Tryz.underlying28 hitn hitnz hitns hitnb rfl (by decide) (.slice none 0 0) 0 [] rfl (World.ownsRow_nil _ _ _ _) w3.heap.size Aw x.way.length kw (tnVals (x.way.map tnW)) rfl HWy.o (tn_one _) x.way.length (by omega) (tnVals (x.way.map tnW)) (List.nil_append _) none rfl (by simp only [maxLen]; have := HWl.o; omega) (by have := HWl.o; omega) (Nat.le_refl _) ?_; intro A9 k9 w4 hown hg hat hk7 hk8))
      have hx4 : Below w3.heap.size w3 w4 := (Below.refl _ _).grown hg (Nat.le_refl _) (fun q hq => by cases hq)
      have HX4 := Lh hx4
      have HO4 := Lh hown
      clear hx4 hown hg hat hk7 hk8 hc7
      go_upto_region 16 with (at_builtin; go_must (refine wpList_app _ rfl _ _ 28 rfl w3.heap.size 91 itn (.agg #[.int .i64 0, .bool false, .int .i64 0]) 3 24 Tryz.underlying28 hitn hitnz hitns hitnb rfl (by decide) (.slice A9 x.way.length k9) x.way.length (tnVals (x.way.map tnW)) rfl (HO4.o.alloc _) (w4.heap.size + 1) (some ⟨w4.heap.size, 0, none⟩) 1 1 (tnVals [tnW t]) rfl (((Blk.new w4 91 (tnVals [tnW t])).sl rfl).up (by simp)) (tn_one _) (x.way.length + 1) rfl (tnVals ((x.way ++ [t]).map tnW)) (by simp [tnVals]) _ rfl (by simp only [maxLen]; have := HWl.o; omega) (by have := HWl.o; omega) (by rw [World.size_alloc]; have := HX4.o.size; omega) ?_; intro A10 k10 w5 hown5 hg5 hat5 hk75 hk85))
      have hx5 : Below w3.heap.size w3 w5 := (HX4.o.alloc HX4.o.size _).grown hg5 (by rw [World.size_alloc]; have := HX4.o.size; omega) (fun q hq => (HO4.o.lt q hq).1)
      have HX5 := Lh hx5
      have hwln : (kidN l x t).way.length = x.way.length + 1 := by show (x.way ++ [t]).length = _; simp
      have HWn := Lh hwln
      have HO5 : Hid (w5.ownsRow w3.heap.size 91 3 (.slice A10 (x.way.length + 1) k10) (kidN l x t).way.length (tnVals ((kidN l x t).way.map tnW))) := Lh (by rw [HWn.o]; exact hown5)
      have g6c : w5.cell? ⟨gs, 6, none⟩ = some (.slice vA2 m2 vk2) := by rw [<- HvE2.o]; exact (HG3.o.below HX5.o HGl.o).cell rfl
      clear hx5 hown5 hg5 hat5 hk75 hk85 HX4 HO4 hwln
      go_wp2_with fail
      refine (rpairs_any (kidN l x t).es M2.cs vA2 l.tn m2 vk2 w5 (EvcAt.rsb (HR3.o.on HX5.o) (by show M2.vE = .slice vA2 (kidN l x t).es.length vk2; rw [HM2.o]; exact HvE2.o)) HM2.o hm2b n2 (fun e he => (esN_mem he).elim (fun h8 => (HOx.o.ok e h8).1) (fun h8 => (evOf_ok HOk.o h8).1))).mono ?_
      rintro e w6 ⟨A11, k11, rfl, _, hb6⟩
      have HX6 : Hid (Below w3.heap.size w3 w6) := Lh (HX5.o.trans (hb6.mono HX5.o.size))
      have HO6 := Lh (HO5.o.below hb6)
      obtain ⟨rc, hrc⟩ : ∃ rc, rc = (rcsE (kidN l x t).es (kidN l x t).es.length).length := ⟨_, rfl⟩
      rw [<- hrc]
      clear hb6 g6c HO5 HX5
      cases hra : raceN (kidN l x t) with
      | true =>
       have hrp : 0 < rc := by rw [hrc]; exact race_yes hra
       have hrp2 : (0 : Int) < rc := by omega
       have hst9 : freeN l = .race (kidN l x t).way := HF.o.trans (by obtain ⟨f, rfl⟩ : ∃ f, ga = f + 1 := ⟨ga - 1, by omega⟩; exact bfs_stop HX0.o (HBr.o.trans (by obtain ⟨f, rfl⟩ : ∃ f, gk = f + 1 := ⟨gk - 1, by omega⟩; exact brow_stop (bstep_race HPk.o hra))))
       have Hst9 := Lh hst9
       clear hst9 hra hrc
       go_wp2_with fail
       go_ret3
       rw [Hst9.o]
       refine ⟨A10, k10, ?_, ?_, HI3.o.bel.trans (HX6.o.mono HI3.o.bel.size)⟩
       ·exact congrArg (fun n => Ending.returned (.tuple #[.bool false, .slice A10 n k10, .bool false])) HWn.o.symm
       ·have h9 := own_lowW HO6.o HI3.o.bel.size
        rw [<- HWn.o] at h9
        exact h9
      | false =>
       have hr0 : rc = 0 := hrc.trans (race_no hra)
       have HRa := Lh hra
       clear hrc hra
       subst hr0
       have HOk2 := Lh (HOx.o.kid HOk.o hlt HRa.o)
       have hL6 := HI3.o.lit.below HX6.o HI3.o.lit.lt
       have q0 := hL6.cell (i := 0) rfl
       have q1 := hL6.cell (i := 1) rfl
       have hG6 := HG3.o.below HX6.o HGl.o
       have HG6 := Lh hG6
       have d0 := hG6.cell (i := 0) rfl
       have d1 := hG6.cell (i := 1) rfl
       have d2 := hG6.cell (i := 2) rfl
       have d3 := hG6.cell (i := 3) rfl
       have d4 := hG6.cell (i := 4) rfl
       have d5 := hG6.cell (i := 5) rfl
       have d6 : w6.cell? ⟨gs, 6, none⟩ = some (.slice vA2 m2 vk2) := by rw [<- HvE2.o]; exact hG6.cell rfl
       have HFl : Hid (Calls Tryz.prog 20 #[litV l, .agg #[.slice (some ⟨M2.h.gw, 0, none⟩) l.wn M2.h.kw, .slice (some ⟨M2.h.gr, 0, none⟩) l.tn M2.h.kr, .slice (some ⟨M2.h.gp, 0, none⟩) l.tn M2.h.kp, .slice (some ⟨M2.h.gb, 0, none⟩) l.tn M2.h.kb, .slice (some ⟨M2.gm, 0, none⟩) l.tn M2.km, .slice (some ⟨M2.gd, 0, none⟩) l.wn M2.kd, .slice vA2 m2 vk2]] w6 (FltR (keyN l (kidN l x t)) w6)) := Lh (by
        have h9 := flat_any l w6 wr.heap.size (kidN l x t).S (kidN l x t).es M2 ((HL.o.keep (HI3.o.bel.trans (HX6.o.mono HI3.o.bel.size))).up (HI3.o.bel.trans (HX6.o.mono HI3.o.bel.size)).size) (HR3.o.on HX6.o) HOk.o (by rw [HM2.o]; exact hm2b) HOk2.o.ok
        unfold rsV at h9
        rw [HvE2.o] at h9
        exact h9)
       have HKp : Hid (0 < (keyN l (kidN l x t)).length) := Lh (flatK_pos n1)
       clear hL6 hG6
       go_wp2_with fail
       refine HFl.o.mono ?_
       rintro e w7 ⟨A12, k12, rfl, ho7, hb7⟩
       obtain ⟨g12, rfl, hg12, hrw12⟩ := Rw.of_own ho7 HKp.o
       have HX7 : Hid (Below w3.heap.size w3 w7) := Lh (HX6.o.trans (hb7.mono HX6.o.size))
       have HO7 := Lh (HO6.o.below hb7)
       have HG7 := Lh (HG6.o.below hb7 HG6.o.lt)
       have HI7 := Lh (HI3.o.on HX7.o)
       have hw36 := HX6.o.size
       have hw3r := HB3.o.size
       have HPt : Hid (Calls Tryz.prog 19 #[.pointer (some ⟨gt, 0, none⟩), .slice (some ⟨g12, 0, none⟩) (keyN l (kidN l x t)).length k12] w7 (PutR T (keyN l (kidN l x t)) w.heap.size gt g12 k12 vK vL vR ths w7)) := Lh (by
        refine put_any T (keyN l (kidN l x t)) w.heap.size gt g12 k12 vK vL vR ths w7 HI7.o.tr hrw12 (fun e => ?_) (fun e => ?_) (by rw [HQ.o.tk, List.length_map]; omega) HI7.o.bel.size (fun q hq => ?_)
        ·have := (HI.o.tr.1.kL.lt g12 e.symm).2
         omega
        ·have := (HI.o.tr.1.kR.lt g12 e.symm).2
         omega
        ·rw [HQ.o.tk] at hq
         obtain ⟨y, hy, rfl⟩ := List.mem_map.1 hq
         obtain ⟨j, hj⟩ := List.mem_iff_getElem?.1 hy
         exact flatK_len (HQ.o.ok j y hj).1 n2 n4)
       clear q0 q1 d0 d1 d2 d3 d4 d5 d6 HFl HKp ho7 hb7 hg12 hrw12 HG6 HX6 HO6
       go_wp2_with fail
       refine HPt.o.mono ?_
       rintro e w8 ⟨vK2, vL2, vR2, rfl, ht8, hf8, hq8⟩
       have HTw := Lh HI7.o.tr.2
       cases hc : (ns.map (keyN l)).contains (keyN l (kidN l x t)) with
       | true =>
        have hc2 : T.ks.contains (keyN l (kidN l x t)) = true := by rw [HQ.o.tk]; exact hc
        obtain ⟨hp1, hp2⟩ := put_seen HTw.o hc2
        rw [hp2] at ht8
        rw [hp1]
        have HI8 := Lh (HI7.o.put ht8 hf8 hq8)
        have Hc := Lh hc
        clear hc hc2 hp1 hp2 ht8 hf8 hq8
        go_wp2_with fail
        go_roundg (gk - 1)
        case measure => omega
        case rel => exact ⟨t + 1, ns, T, vK2, vL2, vR2, _, PN, PW, sts, wys, _, _, rfl, rfl, by go_num, by omega, hin, hnm, HX, Lh (HBr.o.trans (by obtain ⟨f, rfl⟩ : ∃ f, gk = f + 1 := ⟨gk - 1, by omega⟩; exact brow_go (bstep_seen HPk.o HRa.o Hc.o))), HQ, HI8⟩
       | false =>
        have hc2 : T.ks.contains (keyN l (kidN l x t)) = false := by rw [HQ.o.tk]; exact hc
        obtain ⟨hp1, hp2⟩ := put_new HTw.o hc2
        rw [hp1]
        rw [hp1, if_pos rfl] at ht8
        have HP2 := Lh hp2
        have HA7 := Lh (HI7.o.addN (y := kidN l x t) (M2 := M2) (vy := .slice A10 (x.way.length + 1) k10) ((HR3.o.on HX7.o).low HI.o.bel.size) (fun g hg => (HOff2.o g hg).2) (own_lowW HO7.o HI3.o.bel.size))
        have HI8 := Lh (HA7.o.put ht8 hf8 hq8)
        have Hc := Lh hc
        have hG8 : Blk w8 gs 80 (rsL M2 l.tn l.wn) := HG7.o.kept (hf8.block gs HG7.o.lt (fun h8 => by have := HI.o.tr.1.lt gs h8; omega))
        have HG8 := Lh hG8
        clear hc hc2 hp1 hp2 ht8 hf8 hq8 hG8 HG7 HO7
        by_cases hmany : ns.length = 30000
        ·have hst9 : freeN l = .many := HF.o.trans (by obtain ⟨f, rfl⟩ : ∃ f, ga = f + 1 := ⟨ga - 1, by omega⟩; exact bfs_stop HX0.o (HBr.o.trans (by obtain ⟨f, rfl⟩ : ∃ f, gk = f + 1 := ⟨gk - 1, by omega⟩; exact brow_stop (bstep_many HPk.o HRa.o Hc.o hmany))))
         have Hst9 := Lh hst9
         have hm1 : (ns.length : Int) = 30000 := by omega
         clear hst9
         go_wp2_with fail
         go_ret3
         rw [Hst9.o]
         exact ⟨rfl, HI8.o.bel⟩
        ·have hm1 : ¬ (ns.length : Int) = 30000 := by omega
         have HI8a := Lh (HI8.o.on (W' := w8.alloc (.cells #[.slice (some ⟨M2.h.gw, 0, none⟩) l.wn M2.h.kw, .slice (some ⟨M2.h.gr, 0, none⟩) l.tn M2.h.kr, .slice (some ⟨M2.h.gp, 0, none⟩) l.tn M2.h.kp, .slice (some ⟨M2.h.gb, 0, none⟩) l.tn M2.h.kb, .slice (some ⟨M2.gm, 0, none⟩) l.tn M2.km, .slice (some ⟨M2.gd, 0, none⟩) l.wn M2.kd, .slice vA2 m2 vk2] 80)) ((Below.refl _ _).alloc (Nat.le_refl _) _))
         have d0 := HG8.o.cell (i := 0) rfl
         have d1 := HG8.o.cell (i := 1) rfl
         have d2 := HG8.o.cell (i := 2) rfl
         have d3 := HG8.o.cell (i := 3) rfl
         have d4 := HG8.o.cell (i := 4) rfl
         have d5 := HG8.o.cell (i := 5) rfl
         have d6 : w8.cell? ⟨gs, 6, none⟩ = some (.slice vA2 m2 vk2) := by rw [<- HvE2.o]; exact HG8.o.cell rfl
         have hA8 := HI8a.o.all
         rw [HQ.o.sl] at hA8
         have HA8 := Lh hA8
         have HSt : Hid (sts.flatMap (stC l.tn l.wn) ++ [.slice (some ⟨M2.h.gw, 0, none⟩) l.wn M2.h.kw, .slice (some ⟨M2.h.gr, 0, none⟩) l.tn M2.h.kr, .slice (some ⟨M2.h.gp, 0, none⟩) l.tn M2.h.kp, .slice (some ⟨M2.h.gb, 0, none⟩) l.tn M2.h.kb, .slice (some ⟨M2.gm, 0, none⟩) l.tn M2.km, .slice (some ⟨M2.gd, 0, none⟩) l.wn M2.kd, .slice vA2 m2 vk2] = (sts ++ [some M2]).flatMap (stC l.tn l.wn)) := Lh (by
          rw [List.flatMap_append, List.flatMap_cons, List.flatMap_nil, List.append_nil, stC_some HvE2.o]
          rfl)
         clear hA8
         go_upto_region 23 with (at_builtin; go_must (refine wpList_app _ rfl _ _ 82 rfl w.heap.size 80 ist (.agg #[.slice none 0 0, .slice none 0 0, .slice none 0 0, .slice none 0 0, .slice none 0 0, .slice none 0 0, .slice none 0 0]) 7 168 Tryz.underlying82 hist histz hists histb rfl (by decide) (.slice (some ⟨g6, 0, none⟩) ns.length k6) ns.length (sts.flatMap (stC l.tn l.wn)) rfl HA8.o (w8.heap.size + 1) (some ⟨w8.heap.size, 0, none⟩) 1 1 [.slice (some ⟨M2.h.gw, 0, none⟩) l.wn M2.h.kw, .slice (some ⟨M2.h.gr, 0, none⟩) l.tn M2.h.kr, .slice (some ⟨M2.h.gp, 0, none⟩) l.tn M2.h.kp, .slice (some ⟨M2.h.gb, 0, none⟩) l.tn M2.h.kb, .slice (some ⟨M2.gm, 0, none⟩) l.tn M2.km, .slice (some ⟨M2.gd, 0, none⟩) l.wn M2.kd, .slice vA2 m2 vk2] rfl (((Blk.new w8 80 [.slice (some ⟨M2.h.gw, 0, none⟩) l.wn M2.h.kw, .slice (some ⟨M2.h.gr, 0, none⟩) l.tn M2.h.kr, .slice (some ⟨M2.h.gp, 0, none⟩) l.tn M2.h.kp, .slice (some ⟨M2.h.gb, 0, none⟩) l.tn M2.h.kb, .slice (some ⟨M2.gm, 0, none⟩) l.tn M2.km, .slice (some ⟨M2.gd, 0, none⟩) l.wn M2.kd, .slice vA2 m2 vk2]).sl rfl).up (by simp)) (st7_cells _ _ _ _ _ _ _ _ _ _ _ _ _ _ _ _ _ _ _ _ _) (ns.length + 1) rfl _ HSt.o _ rfl (by simp only [maxLen]; omega) (by omega) (by rw [World.size_alloc]; have := HI8.o.bel.size; omega) ?_; intro A13 k13 w9 hown9 hg9 hat9 hk79 hk89))
         have hl9 : (sts ++ [some M2]).length = ns.length + 1 := by simp [HQ.o.sl]
         have HI9 := Lh (HI8a.o.allG (vA' := .slice A13 (ns.length + 1) k13) (sts' := sts ++ [some M2]) (HI8a.o.bel.grown hg9 HI8a.o.bel.size (fun q hq => (HI8a.o.all.lt q hq).1)) (fun q h1 h2 => hg9.block q h1 h2) (by rw [hl9]; exact hown9))
         have HI9a := Lh (HI9.o.on (W' := w9.alloc (.cells #[.slice A10 (x.way.length + 1) k10] 28)) ((Below.refl _ _).alloc (Nat.le_refl _) _))
         have hY9 := HI9a.o.ways
         rw [HQ.o.yl] at hY9
         have HY9 := Lh hY9
         clear hown9 hg9 hat9 hk79 hk89 hl9 hY9 d0 d1 d2 d3 d4 d5 d6 HSt HA8 HI8a
         go_wp2_with (at_builtin; go_must (refine wpList_app _ rfl _ _ 83 rfl w.heap.size 28 iwy (.slice none 0 0) 1 24 Tryz.underlying83 hiwy hiwyz hiwys hiwyb rfl (by decide) (.slice (some ⟨g7, 0, none⟩) ns.length k7) ns.length wys rfl HY9.o (w9.heap.size + 1) (some ⟨w9.heap.size, 0, none⟩) 1 1 [.slice A10 (x.way.length + 1) k10] rfl (((Blk.new w9 28 _).sl rfl).up (by simp)) (by simp [Value.oneCell']) (ns.length + 1) rfl _ rfl _ rfl (by simp only [maxLen]; omega) (by omega) (by rw [World.size_alloc]; have := HI9.o.bel.size; omega) ?_; intro A14 k14 wa hown10 hg10 hat10 hk710 hk810))
         have hl10 : (wys ++ [Value.slice A10 (x.way.length + 1) k10]).length = ns.length + 1 := by simp [HQ.o.yl]
         have HIa := Lh (HI9a.o.waysG (vW' := .slice A14 (ns.length + 1) k14) (wys' := wys ++ [Value.slice A10 (x.way.length + 1) k10]) (HI9a.o.bel.grown hg10 HI9a.o.bel.size (fun q hq => (HI9a.o.ways.lt q hq).1)) (fun q h1 h2 => hg10.block q h1 h2) (by rw [hl10]; exact hown10))
         clear hown10 hg10 hat10 hk710 hk810 hl10
         go_roundg (gk - 1)
         case measure => omega
         case rel =>
          refine ⟨t + 1, ns ++ [kidN l x t], (putT T (keyN l (kidN l x t))).1, vK2, vL2, vR2, _, _, _, sts ++ [some M2], wys ++ [Value.slice A10 (x.way.length + 1) k10], _, _, rfl, rfl, by go_num, by omega, by simp; omega, by simp; omega, Lh (by rw [List.getElem?_append_left hin]; exact HX.o), Lh (HBr.o.trans (by obtain ⟨f, rfl⟩ : ∃ f, gk = f + 1 := ⟨gk - 1, by omega⟩; exact brow_go (bstep_new HPk.o HRa.o Hc.o hmany))), Lh (HQ.o.snoc HP2.o (HQ.o.ok.snoc HOk.o HX.o hlt HRa.o)), HIa⟩
    ·obtain rfl : t = l.tn := by omega
     have hg0 : gk = 0 := by omega
     subst hg0
     have d1 : ¬ (l.tn : Int) < l.tn := by omega
     have HTh := Lh (HI.o.there HQ.o.sl hin)
     have HDn : Hid (∀ wz, wz = wr.setCells g6 (i * 7) [.slice none 0 0, .slice none 0 0, .slice none 0 0, .slice none 0 0, .slice none 0 0, .slice none 0 0, .slice none 0 0] -> RfI l w wz gt T vK vL vR ths PN PW (sts.set i none) wys (.slice (some ⟨g6, 0, none⟩) ns.length k6) (.slice (some ⟨g7, 0, none⟩) ns.length k7)) := Lh fun wz hz => by rw [hz]; exact HI.o.done HQ.o.sl hin
     go_wp2_with (refine wpList_store_mid rfl _ _ _ rfl g6 (i * 7) #[.slice none 0 0, .slice none 0 0, .slice none 0 0, .slice none 0 0, .slice none 0 0, .slice none 0 0, .slice none 0 0] rfl rfl HTh.o size_st7 (st7_one _ _ _ _ _ _ _ _ _ _ _ _ _ _ _ _ _ _ _ _ _) ?_; show wpList _ _ _ _ _ (wr.setCells g6 (i * 7) [.slice none 0 0, .slice none 0 0, .slice none 0 0, .slice none 0 0, .slice none 0 0, .slice none 0 0, .slice none 0 0]); obtain ⟨wz, hwz⟩ : ∃ wz, wz = wr.setCells g6 (i * 7) [.slice none 0 0, .slice none 0 0, .slice none 0 0, .slice none 0 0, .slice none 0 0, .slice none 0 0, .slice none 0 0] := ⟨_, rfl⟩; rw [<- hwz]; have HW9 := Lh (HDn.o wz hwz); clear hwz)
     go_roundg (ga - 1)
     case measure => omega
     case rel => exact ⟨i + 1, ns, T, vK, vL, vR, ths, PN, PW, sts.set i none, wys, _, _, rfl, rfl, by go_num, by omega, hin, by omega, hnm, Lh (HF.o.trans (by obtain ⟨f, rfl⟩ : ∃ f, ga = f + 1 := ⟨ga - 1, by omega⟩; exact bfs_go (HX0.o) (HBr.o))), Lh HQ.o.done, HW9⟩
  ·obtain rfl : i = ns.length := by omega
   have hfr : freeN l = .free := HF.o.trans (bfs_end (List.getElem?_eq_none (Nat.le_refl _)))
   have Hfr := Lh hfr
   clear hfr
   go_wp2_with fail
   go_ret3
   rw [Hfr.o]
   exact ⟨rfl, HI.o.bel⟩
end Go.Proofs.YtgjdgapfnfhklaaGreat
