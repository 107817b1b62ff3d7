/-
reclaimref19.Less: of two lists of numbers the lesser one. r
-/
import Derived.Test.YtgjdgapfnfhklaaGreatZ7
import Derived.BigQuiet
import Derived.Test.YtgjdgapfnfhklaaGreatZ0
import Derived.Test.YtgjdgapfnfhklaaGreatRst
import Derived.Test.YtgjdgapfnfhklaaGreatProg
import Derived.Deep.Slices
import Derived.Deep.Fields
import Derived.ChangeSame
import Derived.Lib.SmallJoins
import Derived.SizedLaws
set_option linter.unusedSimpArgs false
set_option linter.unusedVariables false
set_option maxRecDepth 100000
set_option maxHeartbeats 4000000
namespace Go.Proofs.YtgjdgapfnfhklaaGreat
open Go.RowKit
theorem ret_boolL {a b : Bool} (h : a = b) : Ending.returned (.bool a) = .returned (.bool b) := by rw [h]
theorem less_any (a b : List Int) (A B : Option Addr) (n m k k' : Nat) (w : World) (hA : Sl w w.heap.size 1 A n (ints a)) (hB : Sl w w.heap.size 1 B m (ints b)) (hn : n <= maxLen) (hm : m <= maxLen) :
  Calls Tryz.prog 34 #[.slice A n k, .slice B m k'] w (BoolR (lessL a b) w) := by
 have hla : a.length = n := by have := hA.1; rw [ints_len] at this; omega
 have hlb : b.length = m := by have := hB.1; rw [ints_len] at this; omega
 have HA := Lh hA
 have HB := Lh hB
 have HLa := Lh hla
 have HLb := Lh hlb
 clear hA hB hla hlb
 unfold maxLen at hn hm
 go_enter Tryz.func34, Tryz.ntmps34
 go_wp2_with fail
 go_loopg [5] n (fun gk i wr => ∃ j : Nat, j + gk = n /\ i = .int .i64 j /\ j <= m /\ Hid (lessL a b = lessL (a.drop j) (b.drop j)) /\ Hid (Below w.heap.size w wr))
 case atStart => exact ⟨0, by omega, rfl, Nat.zero_le _, Lh (by rw [List.drop_zero, List.drop_zero]), Lh (Below.refl _ _)⟩
 case round =>
  obtain ⟨j, hj, rfl, hjm, HL, HW⟩ := hrel
  by_cases h1 : j < n
  ·have d1 : decide (j < n) = true := by simpa using h1
   have e1 : (j : Int) < n := by omega
   by_cases h2 : j < m
   ·have d2 : decide (j < m) = true := by simpa using h2
    have e2 : (j : Int) < m := by omega
    have e0 : (0 : Int) <= j := by omega
    obtain ⟨x, hx⟩ := at_lt (show j < a.length by rw [HLa.o]; exact h1)
    obtain ⟨y, hy⟩ := at_lt (show j < b.length by rw [HLb.o]; exact h2)
    obtain ⟨ab, ao, rfl, _, hca⟩ := (HA.o.below HW.o).2 (by omega)
    obtain ⟨bb, bo, rfl, _, hcb⟩ := (HB.o.below HW.o).2 (by omega)
    have c1 := hca j _ (ints_get hx)
    have c2 := hcb j _ (ints_get hy)
    have HX := Lh hx
    have HY := Lh hy
    clear hca hcb hx hy
    by_cases hxy : x = y
    ·subst hxy
     have d3 : (x != x) = false := by simp
     go_upto_region 4 with fail
     go_quiet (fail)
     go_wp2_with fail
     go_roundg (gk - 1)
     case measure => omega
     case rel => exact ⟨j + 1, by omega, by go_num, h2, Lh (HL.o.trans (lessL_same HX.o HY.o)), HW.o.drewN _⟩
    ·have d3 : (x != y) = true := by simpa using hxy
     have HD := Lh (HL.o.trans (lessL_diff HX.o HY.o hxy))
     go_upto_region 4 with fail
     go_quiet (fail)
     obtain ⟨w2, hw2, HW2⟩ : ∃ Z9, Z9 = wr.drewN nq /\ Hid (Below wr.heap.size wr Z9) := ⟨_, rfl, (Below.refl _ _).drewN _⟩
     have k1 : w2.cell? ⟨ab, ao + j, none⟩ = some (.int .i64 x) := (HW2.o.cell (World.block_lt_of_cell? wr _ c1)).trans c1
     have k2 : w2.cell? ⟨bb, bo + j, none⟩ = some (.int .i64 y) := (HW2.o.cell (World.block_lt_of_cell? wr _ c2)).trans c2
     rw [<- hw2]
     clear hw2 c1 c2
     go_upto_region 5 with fail
     go_quiet (fail)
     go_wp2_with fail
     go_ret
     exact ⟨ret_boolL HD.o.symm, HW.o.trans ((HW2.o.drewN _).mono HW.o.size)⟩
   ·have d2 : decide (j < m) = false := by simpa using h2
    have e2 : ¬ (j : Int) < m := by omega
    have HD := Lh (HL.o.trans (lessL_end (Or.inr (by rw [HLb.o]; omega)) (by rw [HLa.o]; omega) (by rw [HLb.o]; omega)))
    have hmj : ¬ n < m := by omega
    have d5 : decide (n < m) = false := by simpa using hmj
    have d6 : decide ((n : Int) < m) = false := by simpa using hmj
    go_wp2_with fail
    go_ret
    have hq := HD.o
    rw [HLa.o, HLb.o, d5] at hq
    exact ⟨ret_boolL hq.symm, HW.o⟩
  ·obtain rfl : j = n := by omega
   have d1 : decide (j < j) = false := by simp
   have HD := Lh (HL.o.trans (lessL_end (Or.inl (by rw [HLa.o]; omega)) (by rw [HLa.o]; omega) (by rw [HLb.o]; omega)))
   cases hd : decide (j < m) with
   | true =>
    have e5 : (j : Int) < m := by simp at hd; omega
    have d6 : decide ((j : Int) < m) = true := by simpa using e5
    have Hd := Lh hd
    clear hd
    go_wp2_with fail
    go_ret
    have hq := HD.o
    rw [HLa.o, HLb.o, Hd.o] at hq
    exact ⟨ret_boolL hq.symm, HW.o⟩
   | false =>
    have e5 : ¬ (j : Int) < m := by simp at hd; omega
    have d6 : decide ((j : Int) < m) = false := by simpa using e5
    have Hd := Lh hd
    clear hd
    go_wp2_with fail
    go_ret
    have hq := HD.o
    rw [HLa.o, HLb.o, Hd.o] at hq
    exact ⟨ret_boolL hq.symm, HW.o⟩
end Go.Proofs.YtgjdgapfnfhklaaGreat
namespace Go.Proofs.YtgjdgapfnfhklaaGreat
open Go.RowKit
def keyV (hs : List (Nat × Nat)) (ks : List (List Int)) : List Value := (ks.zip hs).map fun p => .slice (some ⟨p.2.1, 0, none⟩) p.1.length p.2.2
theorem keyV_get {hs : List (Nat × Nat)} {ks : List (List Int)} {i : Nat} {k : List Int} {p : Nat × Nat} (hk : ks[i]? = some k) (hp : hs[i]? = some p) : (keyV hs ks)[i]? = some (.slice (some ⟨p.1, 0, none⟩) k.length p.2) := by
 unfold keyV
 rw [List.getElem?_map, (List.getElem?_zip_eq_some (z := (k, p))).2 ⟨hk, hp⟩]
 rfl
theorem keyV_snoc {hs : List (Nat × Nat)} {ks : List (List Int)} (h : hs.length = ks.length) (k : List Int) (p : Nat × Nat) : keyV (hs ++ [p]) (ks ++ [k]) = keyV hs ks ++ [.slice (some ⟨p.1, 0, none⟩) k.length p.2] := by
 unfold keyV
 rw [List.zip_append h.symm]
 simp
theorem own_keepT {W W' : World} {B s n : Nat} {e : TypeId} {v : Value} {xs : List Value} (h : W.ownsRow B e s v n xs) (hk : ∀ g, v.ownBlock = some g -> W'.heap[g]? = W.heap[g]?) : W'.ownsRow B e s v n xs := by
 obtain ⟨h1, h2⟩ := h
 refine ⟨h1, h2.imp id fun ⟨g, cap, cur, hv, hB, hg, h3⟩ => ⟨g, cap, cur, hv, hB, ?_, h3⟩⟩
 rw [hk g (by rw [hv]; rfl)]
 exact hg
structure TrX (W : World) (B gt : Nat) (ks : List (List Int)) (L R : List Int) (vK vL vR : Value) (hs : List (Nat × Nat)) : Prop where
 blk : Blk W gt 74 [vK, vL, vR]
 gtB : B <= gt
 kK : W.ownsRow B 22 1 vK ks.length (keyV hs ks)
 kL : W.ownsRow B 3 1 vL L.length (ints L)
 kR : W.ownsRow B 3 1 vR R.length (ints R)
 hl : hs.length = ks.length
 rows : ∀ (i : Nat) (k : List Int) (p : Nat × Nat), ks[i]? = some k -> hs[i]? = some p -> Rw W p.1 3 1 k.length p.2 (ints k) /\ some p.1 ≠ vL.ownBlock /\ some p.1 ≠ vR.ownBlock
 ap : vL.ownBlock = none ∨ vL.ownBlock ≠ vR.ownBlock
def trF (gt : Nat) (vK vL vR : Value) (g : Nat) : Prop := g = gt ∨ some g = vK.ownBlock ∨ some g = vL.ownBlock ∨ some g = vR.ownBlock
theorem ap_symm {vL vR : Value} (h : vL.ownBlock = none ∨ vL.ownBlock ≠ vR.ownBlock) : vR.ownBlock = none ∨ vR.ownBlock ≠ vL.ownBlock := by
 rcases h with h | h
 ·cases hr : vR.ownBlock with
  | none => exact Or.inl rfl
  | some q => exact Or.inr (by rw [h]; simp)
 ·exact Or.inr (Ne.symm h)
theorem own_type {W : World} {B e s n B' e' s' n' : Nat} {v v' : Value} {xs xs' : List Value} (h : W.ownsRow B e s v n xs) (h' : W.ownsRow B' e' s' v' n' xs') (hne : e ≠ e') : v.ownBlock = none ∨ v.ownBlock ≠ v'.ownBlock := by
 rcases h.2 with ⟨rfl, _⟩ | ⟨q, cap, cur, rfl, _, hg, _⟩
 ·exact Or.inl rfl
 ·refine Or.inr fun he => ?_
  have hb : Blk W q e cur.toList := by unfold Blk; rw [hg]
  exact own_nb h' hb (fun h9 => hne h9.symm) he
section
variable {W W' W7 : World} {B gt : Nat} {ks : List (List Int)} {L R : List Int} {vK vL vR : Value} {hs : List (Nat × Nat)}
theorem TrX.lt (h : TrX W B gt ks L R vK vL vR hs) : ∀ g, trF gt vK vL vR g -> g < W.heap.size := by
 rintro g (rfl | e | e | e)
 ·exact h.blk.lt
 ·exact (h.kK.lt g e.symm).2
 ·exact (h.kL.lt g e.symm).2
 ·exact (h.kR.lt g e.symm).2
theorem TrX.low (h : TrX W B gt ks L R vK vL vR hs) : ∀ g, trF gt vK vL vR g -> B <= g := by
 rintro g (rfl | e | e | e)
 ·exact h.gtB
 ·exact (h.kK.lt g e.symm).1
 ·exact (h.kL.lt g e.symm).1
 ·exact (h.kR.lt g e.symm).1
theorem TrX.keepF (h : TrX W B gt ks L R vK vL vR hs) (hk : ∀ g, g < W.heap.size -> W'.heap[g]? = W.heap[g]?) : TrX W' B gt ks L R vK vL vR hs where
 blk := h.blk.kept (hk _ h.blk.lt)
 gtB := h.gtB
 kK := own_keepT h.kK fun g e => hk g (h.kK.lt g e).2
 kL := own_keepT h.kL fun g e => hk g (h.kL.lt g e).2
 kR := own_keepT h.kR fun g e => hk g (h.kR.lt g e).2
 hl := h.hl
 rows := fun i k p e1 e2 => ⟨(h.rows i k p e1 e2).1.kept (hk _ (h.rows i k p e1 e2).1.lt), (h.rows i k p e1 e2).2⟩
 ap := h.ap
theorem TrX.on (h : TrX W B gt ks L R vK vL vR hs) (hb : Below W.heap.size W W') : TrX W' B gt ks L R vK vL vR hs := h.keepF fun g hg => hb.block g hg
theorem TrX.addK {vK' : Value} {k : List Int} {g cap : Nat} (h : TrX W B gt ks L R vK vL vR hs) (hG : W.grownBy W7 vK.ownBlock) (ho : W7.ownsRow B 22 1 vK' (ks.length + 1) (keyV hs ks ++ [.slice (some ⟨g, 0, none⟩) k.length cap]))
  (hk : Rw W g 3 1 k.length cap (ints k)) (h1 : some g ≠ vL.ownBlock) (h2 : some g ≠ vR.ownBlock) : TrX (W7.setCell ⟨gt, 0, none⟩ vK') B gt (ks ++ [k]) L R vK' vL vR (hs ++ [(g, cap)]) := by
 have hB7 := h.blk.grown hG (own_nb h.kK h.blk (by decide))
 have kr : ∀ {q n c : Nat} {xs : List Value}, Rw W q 3 1 n c xs -> Rw (W7.setCell ⟨gt, 0, none⟩ vK') q 3 1 n c xs := fun hr => (hr.gb hG (own_nr h.kK hr (by decide))).far (hr.nb h.blk (by decide)) _
 exact {
  blk := hB7.set_ 0 vK'
  gtB := h.gtB
  kK := by rw [List.length_append, keyV_snoc h.hl]; exact own_far ho hB7 (by decide)
  kL := own_far (h.kL.kept hG (own_type h.kL h.kK (by decide))) hB7 (by decide)
  kR := own_far (h.kR.kept hG (own_type h.kR h.kK (by decide))) hB7 (by decide)
  hl := by simp [h.hl]
  rows := fun i q p e1 e2 => by
   by_cases hi : i < ks.length
   ·rw [List.getElem?_append_left hi] at e1
    rw [List.getElem?_append_left (by rw [h.hl]; exact hi)] at e2
    exact ⟨kr (h.rows i q p e1 e2).1, (h.rows i q p e1 e2).2⟩
   ·have hi2 : i = ks.length := by
     have := (List.getElem?_eq_some_iff.1 e1).1
     simp at this
     omega
    subst hi2
    rw [List.getElem?_append_right (Nat.le_refl _), Nat.sub_self] at e1
    rw [<- h.hl, List.getElem?_append_right (Nat.le_refl _), Nat.sub_self] at e2
    simp at e1 e2
    subst e1 e2
    exact ⟨kr hk, h1, h2⟩
  ap := h.ap }
theorem TrX.addL {vL' : Value} {z : Int} {q : Nat} (h : TrX W B gt ks L R vK vL vR hs) (hG : W.grownBy W7 vL.ownBlock) (ho : W7.ownsRow B 3 1 vL' (L.length + 1) (ints L ++ [.int .i64 z])) (hat : vL'.ownBlock = vL.ownBlock ∨ vL'.ownBlock = some q) (hq : W.heap.size <= q) :
  TrX (W7.setCell ⟨gt, 1, none⟩ vL') B gt ks (L ++ [z]) R vK vL' vR hs := by
 have hB7 := h.blk.grown hG (own_nb h.kL h.blk (by decide))
 exact {
  blk := hB7.set_ 1 vL'
  gtB := h.gtB
  kK := own_far (h.kK.kept hG (own_type h.kK h.kL (by decide))) hB7 (by decide)
  kL := by
   have e : ints (L ++ [z]) = ints L ++ [.int .i64 z] := by simp [ints]
   rw [List.length_append, e]
   exact own_far ho hB7 (by decide)
  kR := own_far (h.kR.kept hG (ap_symm h.ap)) hB7 (by decide)
  hl := h.hl
  rows := fun i k p e1 e2 => by
   obtain ⟨hr, n1, n2⟩ := h.rows i k p e1 e2
   refine ⟨(hr.gb hG n1).far (hr.nb h.blk (by decide)) _, ?_, n2⟩
   rcases hat with e | e
   ·rw [e]; exact n1
   ·rw [e]; intro e9; injection e9 with e9; have := hr.lt; omega
  ap := by
   rcases hat with e | e
   ·rw [e]; exact h.ap
   ·refine Or.inr ?_
    rw [e]
    intro e9
    have := (h.kR.lt q e9.symm).2
    omega }
theorem TrX.addR {vR' : Value} {z : Int} {q : Nat} (h : TrX W B gt ks L R vK vL vR hs) (hG : W.grownBy W7 vR.ownBlock) (ho : W7.ownsRow B 3 1 vR' (R.length + 1) (ints R ++ [.int .i64 z])) (hat : vR'.ownBlock = vR.ownBlock ∨ vR'.ownBlock = some q) (hq : W.heap.size <= q) :
  TrX (W7.setCell ⟨gt, 2, none⟩ vR') B gt ks L (R ++ [z]) vK vL vR' hs := by
 have hB7 := h.blk.grown hG (own_nb h.kR h.blk (by decide))
 exact {
  blk := hB7.set_ 2 vR'
  gtB := h.gtB
  kK := own_far (h.kK.kept hG (own_type h.kK h.kR (by decide))) hB7 (by decide)
  kL := own_far (h.kL.kept hG h.ap) hB7 (by decide)
  kR := by
   have e : ints (R ++ [z]) = ints R ++ [.int .i64 z] := by simp [ints]
   rw [List.length_append, e]
   exact own_far ho hB7 (by decide)
  hl := h.hl
  rows := fun i k p e1 e2 => by
   obtain ⟨hr, n1, n2⟩ := h.rows i k p e1 e2
   refine ⟨(hr.gb hG n2).far (hr.nb h.blk (by decide)) _, n1, ?_⟩
   rcases hat with e | e
   ·rw [e]; exact n2
   ·rw [e]; intro e9; injection e9 with e9; have := hr.lt; omega
  ap := by
   rcases hat with e | e
   ·rw [e]; exact h.ap
   ·rcases h.ap with h9 | h9
    ·exact Or.inl h9
    ·refine Or.inr ?_
     rw [e]
     intro e9
     have := (h.kL.lt q e9).2
     omega }
theorem own_set {A : Option Addr} {n c : Nat} {xs : List Int} {a : Nat} {z : Int} (h : W.ownsRow B 3 1 (.slice A n c) n (ints xs)) (hn : 0 < n) : ∃ g, A = some ⟨g, 0, none⟩ /\ (W.setCell ⟨g, a, none⟩ (.int .i64 z)).ownsRow B 3 1 (.slice A n c) n (ints (xs.set a z)) /\ (Value.slice A n c).ownBlock = some g /\ Rw W g 3 1 n c (ints xs) := by
 obtain ⟨g, rfl, hB, hr⟩ := Rw.of_own h hn
 refine ⟨g, rfl, ?_, rfl, hr⟩
 have h9 := hr.set_ a (.int .i64 z)
 rw [ints_set] at h9
 exact h9.own hB
theorem TrX.setL {g c a : Nat} {z : Int} (h : TrX W B gt ks L R vK (.slice (some ⟨g, 0, none⟩) L.length c) vR hs) (hn : 0 < L.length) : TrX (W.setCell ⟨g, a, none⟩ (.int .i64 z)) B gt ks (L.set a z) R vK (.slice (some ⟨g, 0, none⟩) L.length c) vR hs := by
 obtain ⟨g', e, ho, _, hr⟩ := own_set (a := a) (z := z) h.kL hn
 injection e with e
 injection e with e _
 subst e
 have hG : W.grownBy (W.setCell ⟨g, a, none⟩ (.int .i64 z)) (Value.slice (some ⟨g, 0, none⟩) L.length c).ownBlock := gb_setCell (World.grownBy.refl W _) _ _
 exact {
  blk := h.blk.grown hG (own_nb h.kL h.blk (by decide))
  gtB := h.gtB
  kK := h.kK.kept hG (own_type h.kK h.kL (by decide))
  kL := by rw [List.length_set]; exact ho
  kR := h.kR.kept hG (ap_symm h.ap)
  hl := h.hl
  rows := fun i k p e1 e2 => ⟨(h.rows i k p e1 e2).1.gb hG (h.rows i k p e1 e2).2.1, (h.rows i k p e1 e2).2⟩
  ap := h.ap }
theorem TrX.setR {g c a : Nat} {z : Int} (h : TrX W B gt ks L R vK vL (.slice (some ⟨g, 0, none⟩) R.length c) hs) (hn : 0 < R.length) : TrX (W.setCell ⟨g, a, none⟩ (.int .i64 z)) B gt ks L (R.set a z) vK vL (.slice (some ⟨g, 0, none⟩) R.length c) hs := by
 obtain ⟨g', e, ho, _, hr⟩ := own_set (a := a) (z := z) h.kR hn
 injection e with e
 injection e with e _
 subst e
 have hG : W.grownBy (W.setCell ⟨g, a, none⟩ (.int .i64 z)) (Value.slice (some ⟨g, 0, none⟩) R.length c).ownBlock := gb_setCell (World.grownBy.refl W _) _ _
 exact {
  blk := h.blk.grown hG (own_nb h.kR h.blk (by decide))
  gtB := h.gtB
  kK := h.kK.kept hG (own_type h.kK h.kR (by decide))
  kL := h.kL.kept hG h.ap
  kR := by rw [List.length_set]; exact ho
  hl := h.hl
  rows := fun i k p e1 e2 => ⟨(h.rows i k p e1 e2).1.gb hG (h.rows i k p e1 e2).2.2, (h.rows i k p e1 e2).2⟩
  ap := h.ap }
end
def TrM (W : World) (B gt : Nat) (T : Tr) (vK vL vR : Value) (hs : List (Nat × Nat)) : Prop := TrX W B gt T.ks T.L T.R vK vL vR hs /\ TrW T
def PutR (T : Tr) (k : List Int) (B gt g cap : Nat) (vK vL vR : Value) (hs : List (Nat × Nat)) (w : World) (e : Ending) (w' : World) : Prop :=
 ∃ vK' vL' vR', e = .returned (.tuple #[.int .i64 ((putT T k).2.1 : Nat), .bool (putT T k).2.2]) /\ TrM w' B gt (putT T k).1 vK' vL' vR' (if (putT T k).2.2 = true then hs ++ [(g, cap)] else hs) /\
  Fr (trF gt vK vL vR) w w' /\ ∀ q, trF gt vK' vL' vR' q -> trF gt vK vL vR q ∨ w.heap.size <= q
end Go.Proofs.YtgjdgapfnfhklaaGreat
namespace Go.Proofs.YtgjdgapfnfhklaaGreat
open Go.Joins Go.ChangeShapes Go.WideShapes Go.RowKit Go.Deep
section
variable {H : Type} {enc : TypeId × Value -> H} {P : Program} {w : World} {base : Nat} {spare : Nat -> Bool} {held : Bool}
def Light (P : Program) (t : TypeId) (d : DataW H) : Prop := ∀ n ∈ d.weights P t, n <= reachBytes
theorem Light.slice {t e : TypeId} {el sp : List (DataW H)} (ht : P.underlying t = some (.slice e)) (h : Light P t (.slice el sp)) : (el.length + sp.length) * P.bytesOf e <= reachBytes :=
 h _ (by simp [DataW.weights, ht])
theorem cell_spot {a : Addr} {v : Value} (h : w.cell? a = some v) : a = ⟨a.block, a.off, none⟩ := by
 obtain ⟨b, o, s⟩ := a
 unfold World.cell? at h
 cases s with
 | none => rfl
 | some x =>
  dsimp only at h
  split at h <;> simp at h
theorem sl_of {a : Addr} {n sz : Nat} {xs : List Value} (hl : xs.length = n * sz) (hsz : 0 < sz) (hc : ∀ j, j < n * sz -> w.cell? (a.add j) = xs[j]?) : Sl w w.heap.size sz (some a) n xs := by
 refine ⟨hl, fun hn => ?_⟩
 have hp : 0 < n * sz := Nat.mul_pos hn hsz
 have h0 := hc 0 hp
 obtain ⟨x, hx⟩ := at_lt (l := xs) (j := 0) (by omega)
 rw [hx] at h0
 have h0' : w.cell? a = some x := by simpa [Addr.add] using h0
 have ha := cell_spot h0'
 have hlt := World.block_lt_of_cell? w _ h0'
 obtain ⟨b, o, s⟩ := a
 have hs : s = none := by injection ha
 subst hs
 refine ⟨b, o, rfl, hlt, fun j u hu => ?_⟩
 have hj := (List.getElem?_eq_some_iff.1 hu).1
 have := hc j (by omega)
 rw [hu] at this
 unfold Addr.add at this
 split at this
 ·rename_i hj0; subst hj0; exact this
 ·exact this
theorem open_nums {t e : TypeId} {k : IntKind} {fuel : Nat} {v : Value} {x : DataW H × List MemPlace} (ht : P.underlying t = some (.slice e)) (he : P.underlying e = some (.int k)) (hc : P.cellsOf e = 1)
  (h : DataW.trod enc P w base (fun _ => true) held fuel t [v] = some x) :
  ∃ (A : Option Addr) (n c : Nat) (zs : List Int), v = .slice A n c /\ Sl w w.heap.size 1 A n (zs.map (Value.int k)) /\ zs.length = n /\ n <= c /\ c <= maxLen /\ (∀ z ∈ zs, (Lit.int k z).wf = true) /\
   (Light P t x.1 -> n * P.bytesOf e <= reachBytes) := by
 rcases open_ints ht he hc h with ⟨hcs, hx⟩ | ⟨a, len, cap, zs, hcs, hb, hl, hm, hz, hx, hcell, hw⟩
 ·have hv : v = .slice none 0 0 := by simpa using hcs
  exact ⟨none, 0, 0, [], hv, Sl.nil, rfl, Nat.le_refl _, Nat.zero_le _, by simp, fun _ => by simp⟩
 ·have hv : v = .slice (some a) len cap := by simpa using hcs
  simp only [if_true] at hz
  refine ⟨some a, len, cap, zs.take len, hv, ?_, by simp [hz]; omega, hl, hm, fun z hzm => hw z (List.mem_of_mem_take hzm), fun hL => ?_⟩
  ·refine sl_of (by simp [hz]; omega) (by omega) (fun j hj => ?_)
   rw [hcell j (by omega), List.getElem?_map, List.getElem?_take_of_lt (by omega)]
   rw [List.getD_eq_getElem?_getD, List.getElem?_eq_getElem (by omega : j < zs.length)]
   rfl
  ·rw [hx] at hL
   have := hL.slice ht
   refine Nat.le_trans (Nat.mul_le_mul_right _ ?_) this
   simp [lits, hz]
   omega
theorem open_slice_fields {t e : TypeId} {fs : Array Field} {fuel : Nat} {cs : List Value} {x : DataW H × List MemPlace} (ht : P.underlying t = some (.slice e)) (he : P.underlying e = some (.struct fs))
  (hone : oneCellFields P fs = true) (hC : P.cellsOf e = fs.size) (h : DataW.trod enc P w base spare held fuel t cs = some x) :
  (cs = [.slice none 0 0] /\ x = (.nil, [])) ∨
  ∃ (a : Addr) (len cap m : Nat) (D : Nat -> DataW H) (Pl : Nat -> List MemPlace), cs = [.slice (some a) len cap] /\ base <= a.block /\ len <= cap /\ cap <= maxLen /\ m = (if spare a.block then cap else len) /\
   x = (.slice ((List.range len).map D) ((List.range (m - len)).map fun j => D (len + j)), MemPlace.row a (m * fs.size) ++ (List.range m).flatMap Pl) /\
   ∀ i, i < m -> ∃ (ys : List (DataW H × List MemPlace)) (n : Nat), D i = .agg (ys.map (·.1)) /\ Pl i = ys.flatMap (·.2) /\ ys.length = fs.size /\
    ∀ (j : Nat) (f : Field), fs[j]? = some f -> ∃ (v : Value) (y : DataW H × List MemPlace), w.cell? (a.add (i * fs.size + j)) = some v /\ ys[j]? = some y /\ DataW.trod enc P w base spare held n f.type [v] = some y := by
 rcases open_slice ht h with h0 | ⟨a, len, cap, m, n, D, Pl, hcs, hb, hl, hm, hmm, hx, hi⟩
 ·exact .inl h0
 ·refine .inr ⟨a, len, cap, m, D, Pl, hcs, hb, hl, hm, hmm, by rw [hC] at hx; exact hx, fun i him => ?_⟩
  obtain ⟨cs', hc, ht'⟩ := hi i him
  rw [hC] at hc
  obtain ⟨ys, n', hn', hy, hlen, hyl, hf⟩ := DataW.trod_struct he ht'
  obtain ⟨_, hcl, hat⟩ := World.cells?_some hc
  simp only [Prod.mk.injEq] at hy
  refine ⟨ys, n', hy.1, hy.2, hyl, fun j f hj => ?_⟩
  obtain ⟨ho, hk⟩ := hone_of hone j f hj
  have hjl : j < fs.size := (Array.getElem?_eq_some_iff.1 hj).1
  have hcell := hat j hjl
  have hv : cs'[j]? = some (cs'[j]'(by omega)) := List.getElem?_eq_getElem (by omega)
  have h1 := hf j f hj
  rw [ho, hk] at h1
  have hone' : (cs'.drop j).take 1 = [cs'[j]'(by omega)] := by
   rw [List.drop_eq_getElem_cons (by omega)]
   rfl
  rw [hone'] at h1
  have hys : ys[j]? = some (ys[j]'(by omega)) := List.getElem?_eq_getElem (by omega)
  refine ⟨_, _, ?_, hys, h1.trans hys⟩
  rw [<- Go.Deep.add_add, hcell, hv]
end
end Go.Proofs.YtgjdgapfnfhklaaGreat
