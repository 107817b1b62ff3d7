/-
reclaimref19.Tree.Put: a key is put into the tree, unless it
-/
import Derived.Test.YtgjdgapfnfhklaaGreatZ9
import Derived.Deep.DeepCutAuto
import Derived.Deep.CutBlock
set_option linter.unusedSimpArgs false
set_option linter.unusedVariables false
set_option maxRecDepth 100000
set_option maxHeartbeats 16000000
namespace Go.Proofs.YtgjdgapfnfhklaaGreat
open Go.RowKit
theorem Rw.at_own {W : World} {B g e s n c : Nat} {xs : List Value} (h : W.ownsRow B e s (.slice (some ⟨g, 0, none⟩) n c) n xs) : Rw W g e s n c xs := by
 have hl := h.1
 rcases h.2 with ⟨h0, _⟩ | ⟨q, cap, cur, hv, hB, hg, h1, h2, h3, h4⟩
 ·cases h0
 ·injection hv with hA _ hk
  injection hA with hA
  injection hA with hA _
  subst hA hk
  exact ⟨hl, cur.toList, by unfold Blk; rw [hg], by simpa using h3, h4, h1, h2⟩
theorem T_l {T : Tr} (b : TrB T) {i : Nat} (hi : i < T.ks.length) : T.L[i]? = some (T.l i) := by
 unfold Tr.l
 rw [List.getD_eq_getElem?_getD]
 simp [show i < T.L.length by rw [b.l]; exact hi]
theorem T_r {T : Tr} (b : TrB T) {i : Nat} (hi : i < T.ks.length) : T.R[i]? = some (T.r i) := by
 unfold Tr.r
 rw [List.getD_eq_getElem?_getD]
 simp [show i < T.R.length by rw [b.r]; exact hi]
theorem T_key {T : Tr} {i : Nat} (hi : i < T.ks.length) : T.ks[i]? = some (T.key i) := by
 unfold Tr.key
 rw [List.getD_eq_getElem?_getD]
 simp [hi]
theorem less_b {a b : List Int} {v : Bool} (h : lessL a b = v) (A B : Option Addr) (n m k k' : Nat) (w : World) (hA : Sl w w.heap.size 1 A n (ints a)) (hB : Sl w w.heap.size 1 B m (ints b)) (hn : n <= maxLen) (hm : m <= maxLen) :
  Calls Tryz.prog 34 #[.slice A n k, .slice B m k'] w (BoolR v w) := by
 rw [<- h]
 exact less_any a b A B n m k k' w hA hB hn hm
def PutX (T : Tr) (k : List Int) (s6 s7 : Value) : Prop := (T.ks.length = 0 /\ s6 = .int .i64 (-1) /\ s7 = .bool false) ∨ ∃ (a : Nat) (r : Bool), 0 < T.ks.length /\ s6 = .int .i64 a /\ s7 = .bool r /\ srch T k T.ks.length 0 = .miss a r
theorem PutX.miss_l {T : Tr} {k : List Int} {a : Nat} (hn : 0 < T.ks.length) (h : srch T k T.ks.length 0 = .miss a false) : Hid (PutX T k (.int .i64 a) (.bool false)) := Lh (Or.inr ⟨a, false, hn, rfl, rfl, h⟩)
theorem PutX.miss_r {T : Tr} {k : List Int} {a : Nat} (hn : 0 < T.ks.length) (h : srch T k T.ks.length 0 = .miss a true) : Hid (PutX T k (.int .i64 a) (.bool true)) := Lh (Or.inr ⟨a, true, hn, rfl, rfl, h⟩)
theorem putT_hit {T : Tr} {k : List Int} {j : Nat} (hn : 0 < T.ks.length) (h : srch T k T.ks.length 0 = .hit j) : putT T k = (T, j, false) := by
 unfold putT
 rw [if_neg (by omega), h]
theorem putT_miss {T : Tr} {k : List Int} {a : Nat} {r : Bool} (hn : 0 < T.ks.length) (h : srch T k T.ks.length 0 = .miss a r) : putT T k = (T.hang k a r, T.ks.length, true) := by
 unfold putT
 rw [if_neg (by omega), h]
theorem putT_zero {T : Tr} {k : List Int} (h : T.ks.length = 0) : putT T k = (⟨[k], [-1], [-1]⟩, 0, true) := by
 unfold putT
 rw [if_pos h]
theorem Fr.gbw {F : Nat -> Prop} {w W W' : World} {row : Option Nat} (h : Fr F w W) (hg : W.grownBy W' row) (hF : ∀ q, row = some q -> F q ∨ w.heap.size <= q) : Fr F w W' :=
 ⟨hg.os.trans h.os, hg.tape.trans h.tape, hg.output.trans h.output, Nat.le_trans h.size hg.size, fun g hl hf => (hg.block g (Nat.lt_of_lt_of_le hl h.size) (fun e => (hF g e.symm).elim hf (fun h9 => by omega))).trans (h.block g hl hf)⟩
section
variable {T : Tr} {k : List Int} {B gt g cap : Nat} {vK vL vR : Value} {hs : List (Nat × Nat)} {w w' : World} {e : Ending}
theorem PutR.hit {j : Nat} (hp : putT T k = (T, j, false)) (he : e = .returned (.tuple #[.int .i64 j, .bool false])) (ht : TrM w' B gt T vK vL vR hs) (hb : Below w.heap.size w w') : PutR T k B gt g cap vK vL vR hs w e w' := by
 refine ⟨vK, vL, vR, ?_, ?_, Fr.of hb, fun q hq => Or.inl hq⟩
 ·rw [hp]; exact he
 ·rw [hp]; exact ht
theorem PutR.new {vK' vL' vR' : Value} {T' : Tr} {m : Nat} (hp : putT T k = (T', m, true)) (he : e = .returned (.tuple #[.int .i64 m, .bool true])) (ht : TrM w' B gt T' vK' vL' vR' (hs ++ [(g, cap)])) (hf : Fr (trF gt vK vL vR) w w') (hq : ∀ q, trF gt vK' vL' vR' q -> trF gt vK vL vR q ∨ w.heap.size <= q) : PutR T k B gt g cap vK vL vR hs w e w' := by
 refine ⟨vK', vL', vR', ?_, ?_, hf, hq⟩
 ·rw [hp]; exact he
 ·rw [hp]; exact ht
end
theorem ret_nat {a b : Nat} (h : a = b) : Ending.returned (.tuple #[.int .i64 a, .bool true]) = .returned (.tuple #[.int .i64 b, .bool true]) := by rw [h]
theorem info_iT : (Tryz.prog.info? 3).map (fun i => (i.zero, i.size, i.bytes)) = some (some (.int .i64 0), 1, 8) := by kernel_rfl
theorem info_sT : (Tryz.prog.info? 22).map (fun i => (i.zero, i.size, i.bytes)) = some (some (.slice none 0 0), 1, 24) := by kernel_rfl
theorem one_slT (A : Option Addr) (n k : Nat) : ∀ u ∈ [Value.slice A n k], u.oneCell' = true := by intro u hu; simp at hu; subst hu; rfl
theorem one_inT (z : Int) : ∀ u ∈ [Value.int .i64 z], u.oneCell' = true := by intro u hu; simp at hu; subst hu; rfl
theorem put_any (T : Tr) (k : List Int) (B gt g cap : Nat) (vK vL vR : Value) (hs : List (Nat × Nat)) (w : World) (hT : TrM w B gt T vK vL vR hs) (hk : Rw w g 3 1 k.length cap (ints k)) (h1 : some g ≠ vL.ownBlock) (h2 : some g ≠ vR.ownBlock) (hnm : T.ks.length <= 100000) (hbw : B <= w.heap.size)
  (hlen : ∀ q ∈ T.ks, q.length <= maxLen) :
  Calls Tryz.prog 19 #[.pointer (some ⟨gt, 0, none⟩), .slice (some ⟨g, 0, none⟩) k.length cap] w (PutR T k B gt g cap vK vL vR hs w) := by
 obtain ⟨hX, hTW⟩ := hT
 obtain ⟨AK, cK, rfl, hcK, hcK2⟩ := own_form hX.kK
 obtain ⟨AL, cL, rfl, hcL, hcL2⟩ := own_form hX.kL
 obtain ⟨AR, cR, rfl, hcR, hcR2⟩ := own_form hX.kR
 obtain ⟨n, hn⟩ : ∃ n, n = T.ks.length := ⟨_, rfl⟩
 have HN := Lh hn
 have HnL : Hid (T.L.length = n) := Lh (hTW.b.l.trans hn.symm)
 have HnR : Hid (T.R.length = n) := Lh (hTW.b.r.trans hn.symm)
 have HTB := Lh hTW.b
 have HTW := Lh hTW
 have HK := Lh hk
 have H1 := Lh h1
 have H2 := Lh h2
 have HLn := Lh hlen
 rw [<- hn] at hnm hcK
 have hnL := HnL.o
 have hnR := HnR.o
 rw [hnL] at hcL
 rw [hnR] at hcR
 have hXv : TrX w B gt T.ks T.L T.R (.slice AK n cK) (.slice AL n cL) (.slice AR n cR) hs := by
  have h9 := hX
  rw [<- hn, hnL, hnR] at h9
  exact h9
 have HX := Lh hXv
 rw [<- hn, hnL, hnR]
 rw [hnL] at H1
 rw [hnR] at H2
 have HKm : Hid (k.length <= maxLen) := Lh (Nat.le_trans hk.nk.1 hk.nk.2)
 have HEnd : Hid (∀ e w', PutR T k B gt g cap (.slice AK n cK) (.slice AL n cL) (.slice AR n cR) hs w e w' -> PutR T k B gt g cap (.slice AK n cK) (.slice AL n cL) (.slice AR n cR) hs w e w') := Lh fun _ _ h => h
 obtain ⟨ii, hii, hiiz, hiis, hiib⟩ := info_parts info_iT
 obtain ⟨is, his, hisz, hiss, hisb⟩ := info_parts info_sT
 clear hX hTW hk h1 h2 hlen hn hnL hnR hXv
 go_enter Tryz.func19, Tryz.ntmps19
 go_upto_block 0 with (fail)
 go_cut [6, 7] from 10 to 52 (fun s6 s7 wc => Hid (Below w.heap.size w wc) /\ Hid (PutX T k s6 s7))
 case first =>
  rcases Nat.eq_zero_or_pos n with hn0 | hn0
  ·have e0 : ¬ 0 < n := by omega
   have d0 : decide (0 < n) = false := by simpa using e0
   go_wp2_with fail
   go_loopg [6, 7, 8] 0 (fun gk s6 s7 i wr => s6 = .int .i64 (-1) /\ s7 = .bool false /\ i = .int .i64 0 /\ Hid (Below w.heap.size w wr))
   case atStart => exact ⟨rfl, rfl, rfl, Lh (Below.refl _ _)⟩
   case round =>
    obtain ⟨rfl, rfl, rfl, HW⟩ := hrel
    have p0 := (HX.o.on HW.o).blk.cell (i := 0) rfl
    have hz9 : Hid (PutX T k (.int .i64 (-1)) (.bool false)) := Lh (Or.inl ⟨by rw [<- HN.o]; exact hn0, rfl, rfl⟩)
    go_wp2_with fail
    go_meet
    exact ⟨HW, hz9⟩
  ·obtain ⟨gK, hgK, _, _⟩ := Rw.of_own (by have h9 := HX.o.kK; rw [<- HN.o] at h9; exact h9) hn0
   obtain ⟨gL, hgL, _, _⟩ := Rw.of_own (by have h9 := HX.o.kL; rw [HnL.o] at h9; exact h9) hn0
   obtain ⟨gR, hgR, _, _⟩ := Rw.of_own (by have h9 := HX.o.kR; rw [HnR.o] at h9; exact h9) hn0
   subst hgK hgL hgR
   go_wp2_with fail
   go_loopg [6, 7, 8] n (fun gk s6 s7 i wr => ∃ j : Nat, i = .int .i64 j /\ j < n /\ gk + j = n /\ Hid (srch T k T.ks.length 0 = srch T k gk j) /\ Hid (Below w.heap.size w wr))
   case atStart => exact ⟨0, rfl, hn0, by omega, Lh (by rw [<- HN.o]), Lh (Below.refl _ _)⟩
   case round =>
    obtain ⟨j, rfl, hjn, hgk, HS, HWwr⟩ := hrel
    have d1 : decide (j < n) = true := by simpa using hjn
    have e1 : (j : Int) < n := by omega
    have e2 : (0 : Int) <= j := by omega
    have HKj := Lh (T_key (T := T) (i := j) (by rw [<- HN.o]; exact hjn))
    obtain ⟨⟨pg, pc⟩, hpj⟩ := at_lt (show j < hs.length by rw [HX.o.hl, <- HN.o]; exact hjn)
    have HPj := Lh hpj
    have HQm : Hid ((T.key j).length <= maxLen) := Lh (HLn.o _ (List.mem_of_getElem? HKj.o))
    have HXwr := Lh (HX.o.on HWwr.o)
    have HKswr : Hid (Sl wr wr.heap.size 1 (some ⟨g, 0, none⟩) k.length (ints k)) := Lh ((HK.o.on HWwr.o).sl)
    have HQswr : Hid (Sl wr wr.heap.size 1 (some ⟨pg, 0, none⟩) (T.key j).length (ints (T.key j))) := Lh ((HXwr.o.rows j _ _ HKj.o HPj.o).1.sl)
    clear hpj
    rcases srch_ways HTB.o k (by rw [<- HN.o]; exact hjn) with ⟨h1, h2⟩ | ⟨h1, c, h2, h3, h4⟩ | ⟨h0, h1, h2⟩ | ⟨h0, h1, c, h2, h3, h4⟩ | ⟨h0, h1⟩
    ·have HL1 : Hid (lessL k (T.key j) = true) := Lh h1
     have HLz := Lh h2
     clear h1 h2
     have p0 := HXwr.o.blk.cell (i := 0) rfl
     have p1 := HXwr.o.blk.cell (i := 1) rfl
     have p2 := HXwr.o.blk.cell (i := 2) rfl
     have p3 : wr.cell? ⟨gK, j, none⟩ = some (.slice (some ⟨pg, 0, none⟩) (T.key j).length pc) := (Rw.at_own (by have h9 := HXwr.o.kK; rw [<- HN.o] at h9; exact h9)).cell (keyV_get HKj.o HPj.o)
     have p4 : wr.cell? ⟨gL, j, none⟩ = some (.int .i64 (T.l j)) := (Rw.at_own (by have h9 := HXwr.o.kL; rw [HnL.o] at h9; exact h9)).cell (ints_get (T_l HTB.o (by rw [<- HN.o]; exact hjn)))
     have p5 : wr.cell? ⟨gR, j, none⟩ = some (.int .i64 (T.r j)) := (Rw.at_own (by have h9 := HXwr.o.kR; rw [HnR.o] at h9; exact h9)).cell (ints_get (T_r HTB.o (by rw [<- HN.o]; exact hjn)))
     go_upto_region 8 with (go_at_call 34; go_must (refine (less_b HL1.o (some ⟨g, 0, none⟩) (some ⟨pg, 0, none⟩) k.length (T.key j).length cap pc _ HKswr.o HQswr.o HKm.o HQm.o).mono ?_; rintro e w2 ⟨rfl, hb9⟩))
     have HXw2 := Lh (HXwr.o.on hb9)
     have HWw2 := Lh (HWwr.o.trans (hb9.mono HWwr.o.size))
     have HKsw2 := Lh ((HKswr.o.below hb9).up hb9.size)
     have HQsw2 := Lh ((HQswr.o.below hb9).up hb9.size)
     clear hb9
     clear p0 p1 p2 p3 p4 p5
     have p0 := HXw2.o.blk.cell (i := 0) rfl
     have p1 := HXw2.o.blk.cell (i := 1) rfl
     have p2 := HXw2.o.blk.cell (i := 2) rfl
     have p3 : w2.cell? ⟨gK, j, none⟩ = some (.slice (some ⟨pg, 0, none⟩) (T.key j).length pc) := (Rw.at_own (by have h9 := HXw2.o.kK; rw [<- HN.o] at h9; exact h9)).cell (keyV_get HKj.o HPj.o)
     have p4 : w2.cell? ⟨gL, j, none⟩ = some (.int .i64 (T.l j)) := (Rw.at_own (by have h9 := HXw2.o.kL; rw [HnL.o] at h9; exact h9)).cell (ints_get (T_l HTB.o (by rw [<- HN.o]; exact hjn)))
     have p5 : w2.cell? ⟨gR, j, none⟩ = some (.int .i64 (T.r j)) := (Rw.at_own (by have h9 := HXw2.o.kR; rw [HnR.o] at h9; exact h9)).cell (ints_get (T_r HTB.o (by rw [<- HN.o]; exact hjn)))
     rw [HLz.o] at p4
     go_wp2_with fail
     go_meet
     exact ⟨HWw2, PutX.miss_l (by rw [<- HN.o]; exact hn0) (by rw [HS.o]; obtain ⟨f, rfl⟩ : ∃ f, gk = f + 1 := ⟨gk - 1, by omega⟩; exact srch_left0 HL1.o (by rw [HLz.o]; decide))⟩
    ·have HL1 : Hid (lessL k (T.key j) = true) := Lh h1
     have HLz := Lh h2
     have hcn : c < n := by rw [HN.o]; exact h4
     clear h1 h2 h4
     have p0 := HXwr.o.blk.cell (i := 0) rfl
     have p1 := HXwr.o.blk.cell (i := 1) rfl
     have p2 := HXwr.o.blk.cell (i := 2) rfl
     have p3 : wr.cell? ⟨gK, j, none⟩ = some (.slice (some ⟨pg, 0, none⟩) (T.key j).length pc) := (Rw.at_own (by have h9 := HXwr.o.kK; rw [<- HN.o] at h9; exact h9)).cell (keyV_get HKj.o HPj.o)
     have p4 : wr.cell? ⟨gL, j, none⟩ = some (.int .i64 (T.l j)) := (Rw.at_own (by have h9 := HXwr.o.kL; rw [HnL.o] at h9; exact h9)).cell (ints_get (T_l HTB.o (by rw [<- HN.o]; exact hjn)))
     have p5 : wr.cell? ⟨gR, j, none⟩ = some (.int .i64 (T.r j)) := (Rw.at_own (by have h9 := HXwr.o.kR; rw [HnR.o] at h9; exact h9)).cell (ints_get (T_r HTB.o (by rw [<- HN.o]; exact hjn)))
     go_upto_region 8 with (go_at_call 34; go_must (refine (less_b HL1.o (some ⟨g, 0, none⟩) (some ⟨pg, 0, none⟩) k.length (T.key j).length cap pc _ HKswr.o HQswr.o HKm.o HQm.o).mono ?_; rintro e w2 ⟨rfl, hb9⟩))
     have HXw2 := Lh (HXwr.o.on hb9)
     have HWw2 := Lh (HWwr.o.trans (hb9.mono HWwr.o.size))
     have HKsw2 := Lh ((HKswr.o.below hb9).up hb9.size)
     have HQsw2 := Lh ((HQswr.o.below hb9).up hb9.size)
     clear hb9
     clear p0 p1 p2 p3 p4 p5
     have p0 := HXw2.o.blk.cell (i := 0) rfl
     have p1 := HXw2.o.blk.cell (i := 1) rfl
     have p2 := HXw2.o.blk.cell (i := 2) rfl
     have p3 : w2.cell? ⟨gK, j, none⟩ = some (.slice (some ⟨pg, 0, none⟩) (T.key j).length pc) := (Rw.at_own (by have h9 := HXw2.o.kK; rw [<- HN.o] at h9; exact h9)).cell (keyV_get HKj.o HPj.o)
     have p4 : w2.cell? ⟨gL, j, none⟩ = some (.int .i64 (T.l j)) := (Rw.at_own (by have h9 := HXw2.o.kL; rw [HnL.o] at h9; exact h9)).cell (ints_get (T_l HTB.o (by rw [<- HN.o]; exact hjn)))
     have p5 : w2.cell? ⟨gR, j, none⟩ = some (.int .i64 (T.r j)) := (Rw.at_own (by have h9 := HXw2.o.kR; rw [HnR.o] at h9; exact h9)).cell (ints_get (T_r HTB.o (by rw [<- HN.o]; exact hjn)))
     rw [HLz.o] at p4
     have e9 : ¬ ((c : Int) < 0) := by omega
     have hsn : srch T k T.ks.length 0 = srch T k (n - c) c := by
      rw [HS.o]
      obtain ⟨f, hf⟩ : ∃ f, gk = f + 1 := ⟨gk - 1, by omega⟩
      rw [hf, srch_l HL1.o HLz.o]
      have h9 := srch_up HTB.o k (f := n - c) (i := c) (by rw [<- HN.o]; exact hcn) (by rw [<- HN.o]; omega) (f - (n - c))
      rw [show n - c + (f - (n - c)) = f by omega] at h9
      exact h9
     have HSn := Lh hsn
     clear hsn
     go_wp2_with fail
     go_roundg (n - c)
     case measure => omega
     case rel => exact ⟨c, rfl, hcn, by omega, HSn, HWw2⟩
    ·have HL0 : Hid (lessL k (T.key j) = false) := Lh h0
     have HL1 : Hid (lessL (T.key j) k = true) := Lh h1
     have HLz := Lh h2
     clear h0 h1 h2
     have p0 := HXwr.o.blk.cell (i := 0) rfl
     have p1 := HXwr.o.blk.cell (i := 1) rfl
     have p2 := HXwr.o.blk.cell (i := 2) rfl
     have p3 : wr.cell? ⟨gK, j, none⟩ = some (.slice (some ⟨pg, 0, none⟩) (T.key j).length pc) := (Rw.at_own (by have h9 := HXwr.o.kK; rw [<- HN.o] at h9; exact h9)).cell (keyV_get HKj.o HPj.o)
     have p4 : wr.cell? ⟨gL, j, none⟩ = some (.int .i64 (T.l j)) := (Rw.at_own (by have h9 := HXwr.o.kL; rw [HnL.o] at h9; exact h9)).cell (ints_get (T_l HTB.o (by rw [<- HN.o]; exact hjn)))
     have p5 : wr.cell? ⟨gR, j, none⟩ = some (.int .i64 (T.r j)) := (Rw.at_own (by have h9 := HXwr.o.kR; rw [HnR.o] at h9; exact h9)).cell (ints_get (T_r HTB.o (by rw [<- HN.o]; exact hjn)))
     go_upto_region 9 with (go_at_call 34; go_must (refine (less_b HL0.o (some ⟨g, 0, none⟩) (some ⟨pg, 0, none⟩) k.length (T.key j).length cap pc _ HKswr.o HQswr.o HKm.o HQm.o).mono ?_; rintro e w2 ⟨rfl, hb9⟩))
     have HXw2 := Lh (HXwr.o.on hb9)
     have HWw2 := Lh (HWwr.o.trans (hb9.mono HWwr.o.size))
     have HKsw2 := Lh ((HKswr.o.below hb9).up hb9.size)
     have HQsw2 := Lh ((HQswr.o.below hb9).up hb9.size)
     clear hb9
     clear p0 p1 p2 p3 p4 p5
     have p0 := HXw2.o.blk.cell (i := 0) rfl
     have p1 := HXw2.o.blk.cell (i := 1) rfl
     have p2 := HXw2.o.blk.cell (i := 2) rfl
     have p3 : w2.cell? ⟨gK, j, none⟩ = some (.slice (some ⟨pg, 0, none⟩) (T.key j).length pc) := (Rw.at_own (by have h9 := HXw2.o.kK; rw [<- HN.o] at h9; exact h9)).cell (keyV_get HKj.o HPj.o)
     have p4 : w2.cell? ⟨gL, j, none⟩ = some (.int .i64 (T.l j)) := (Rw.at_own (by have h9 := HXw2.o.kL; rw [HnL.o] at h9; exact h9)).cell (ints_get (T_l HTB.o (by rw [<- HN.o]; exact hjn)))
     have p5 : w2.cell? ⟨gR, j, none⟩ = some (.int .i64 (T.r j)) := (Rw.at_own (by have h9 := HXw2.o.kR; rw [HnR.o] at h9; exact h9)).cell (ints_get (T_r HTB.o (by rw [<- HN.o]; exact hjn)))
     go_upto_region 11 with (go_at_call 34; go_must (refine (less_b HL1.o (some ⟨pg, 0, none⟩) (some ⟨g, 0, none⟩) (T.key j).length k.length pc cap _ HQsw2.o HKsw2.o HQm.o HKm.o).mono ?_; rintro e w3 ⟨rfl, hb9⟩))
     have HXw3 := Lh (HXw2.o.on hb9)
     have HWw3 := Lh (HWw2.o.trans (hb9.mono HWw2.o.size))
     have HKsw3 := Lh ((HKsw2.o.below hb9).up hb9.size)
     have HQsw3 := Lh ((HQsw2.o.below hb9).up hb9.size)
     clear hb9
     clear p0 p1 p2 p3 p4 p5
     have p0 := HXw3.o.blk.cell (i := 0) rfl
     have p1 := HXw3.o.blk.cell (i := 1) rfl
     have p2 := HXw3.o.blk.cell (i := 2) rfl
     have p3 : w3.cell? ⟨gK, j, none⟩ = some (.slice (some ⟨pg, 0, none⟩) (T.key j).length pc) := (Rw.at_own (by have h9 := HXw3.o.kK; rw [<- HN.o] at h9; exact h9)).cell (keyV_get HKj.o HPj.o)
     have p4 : w3.cell? ⟨gL, j, none⟩ = some (.int .i64 (T.l j)) := (Rw.at_own (by have h9 := HXw3.o.kL; rw [HnL.o] at h9; exact h9)).cell (ints_get (T_l HTB.o (by rw [<- HN.o]; exact hjn)))
     have p5 : w3.cell? ⟨gR, j, none⟩ = some (.int .i64 (T.r j)) := (Rw.at_own (by have h9 := HXw3.o.kR; rw [HnR.o] at h9; exact h9)).cell (ints_get (T_r HTB.o (by rw [<- HN.o]; exact hjn)))
     rw [HLz.o] at p5
     go_wp2_with fail
     go_meet
     exact ⟨HWw3, PutX.miss_r (by rw [<- HN.o]; exact hn0) (by rw [HS.o]; obtain ⟨f, rfl⟩ : ∃ f, gk = f + 1 := ⟨gk - 1, by omega⟩; exact srch_right0 HL0.o HL1.o (by rw [HLz.o]; decide))⟩
    ·have HL0 : Hid (lessL k (T.key j) = false) := Lh h0
     have HL1 : Hid (lessL (T.key j) k = true) := Lh h1
     have HLz := Lh h2
     have hcn : c < n := by rw [HN.o]; exact h4
     clear h0 h1 h2 h4
     have p0 := HXwr.o.blk.cell (i := 0) rfl
     have p1 := HXwr.o.blk.cell (i := 1) rfl
     have p2 := HXwr.o.blk.cell (i := 2) rfl
     have p3 : wr.cell? ⟨gK, j, none⟩ = some (.slice (some ⟨pg, 0, none⟩) (T.key j).length pc) := (Rw.at_own (by have h9 := HXwr.o.kK; rw [<- HN.o] at h9; exact h9)).cell (keyV_get HKj.o HPj.o)
     have p4 : wr.cell? ⟨gL, j, none⟩ = some (.int .i64 (T.l j)) := (Rw.at_own (by have h9 := HXwr.o.kL; rw [HnL.o] at h9; exact h9)).cell (ints_get (T_l HTB.o (by rw [<- HN.o]; exact hjn)))
     have p5 : wr.cell? ⟨gR, j, none⟩ = some (.int .i64 (T.r j)) := (Rw.at_own (by have h9 := HXwr.o.kR; rw [HnR.o] at h9; exact h9)).cell (ints_get (T_r HTB.o (by rw [<- HN.o]; exact hjn)))
     go_upto_region 9 with (go_at_call 34; go_must (refine (less_b HL0.o (some ⟨g, 0, none⟩) (some ⟨pg, 0, none⟩) k.length (T.key j).length cap pc _ HKswr.o HQswr.o HKm.o HQm.o).mono ?_; rintro e w2 ⟨rfl, hb9⟩))
     have HXw2 := Lh (HXwr.o.on hb9)
     have HWw2 := Lh (HWwr.o.trans (hb9.mono HWwr.o.size))
     have HKsw2 := Lh ((HKswr.o.below hb9).up hb9.size)
     have HQsw2 := Lh ((HQswr.o.below hb9).up hb9.size)
     clear hb9
     clear p0 p1 p2 p3 p4 p5
     have p0 := HXw2.o.blk.cell (i := 0) rfl
     have p1 := HXw2.o.blk.cell (i := 1) rfl
     have p2 := HXw2.o.blk.cell (i := 2) rfl
     have p3 : w2.cell? ⟨gK, j, none⟩ = some (.slice (some ⟨pg, 0, none⟩) (T.key j).length pc) := (Rw.at_own (by have h9 := HXw2.o.kK; rw [<- HN.o] at h9; exact h9)).cell (keyV_get HKj.o HPj.o)
     have p4 : w2.cell? ⟨gL, j, none⟩ = some (.int .i64 (T.l j)) := (Rw.at_own (by have h9 := HXw2.o.kL; rw [HnL.o] at h9; exact h9)).cell (ints_get (T_l HTB.o (by rw [<- HN.o]; exact hjn)))
     have p5 : w2.cell? ⟨gR, j, none⟩ = some (.int .i64 (T.r j)) := (Rw.at_own (by have h9 := HXw2.o.kR; rw [HnR.o] at h9; exact h9)).cell (ints_get (T_r HTB.o (by rw [<- HN.o]; exact hjn)))
     go_upto_region 11 with (go_at_call 34; go_must (refine (less_b HL1.o (some ⟨pg, 0, none⟩) (some ⟨g, 0, none⟩) (T.key j).length k.length pc cap _ HQsw2.o HKsw2.o HQm.o HKm.o).mono ?_; rintro e w3 ⟨rfl, hb9⟩))
     have HXw3 := Lh (HXw2.o.on hb9)
     have HWw3 := Lh (HWw2.o.trans (hb9.mono HWw2.o.size))
     have HKsw3 := Lh ((HKsw2.o.below hb9).up hb9.size)
     have HQsw3 := Lh ((HQsw2.o.below hb9).up hb9.size)
     clear hb9
     clear p0 p1 p2 p3 p4 p5
     have p0 := HXw3.o.blk.cell (i := 0) rfl
     have p1 := HXw3.o.blk.cell (i := 1) rfl
     have p2 := HXw3.o.blk.cell (i := 2) rfl
     have p3 : w3.cell? ⟨gK, j, none⟩ = some (.slice (some ⟨pg, 0, none⟩) (T.key j).length pc) := (Rw.at_own (by have h9 := HXw3.o.kK; rw [<- HN.o] at h9; exact h9)).cell (keyV_get HKj.o HPj.o)
     have p4 : w3.cell? ⟨gL, j, none⟩ = some (.int .i64 (T.l j)) := (Rw.at_own (by have h9 := HXw3.o.kL; rw [HnL.o] at h9; exact h9)).cell (ints_get (T_l HTB.o (by rw [<- HN.o]; exact hjn)))
     have p5 : w3.cell? ⟨gR, j, none⟩ = some (.int .i64 (T.r j)) := (Rw.at_own (by have h9 := HXw3.o.kR; rw [HnR.o] at h9; exact h9)).cell (ints_get (T_r HTB.o (by rw [<- HN.o]; exact hjn)))
     rw [HLz.o] at p5
     have e9 : ¬ ((c : Int) < 0) := by omega
     have hsn : srch T k T.ks.length 0 = srch T k (n - c) c := by
      rw [HS.o]
      obtain ⟨f, hf⟩ : ∃ f, gk = f + 1 := ⟨gk - 1, by omega⟩
      rw [hf, srch_r HL0.o HL1.o HLz.o]
      have h9 := srch_up HTB.o k (f := n - c) (i := c) (by rw [<- HN.o]; exact hcn) (by rw [<- HN.o]; omega) (f - (n - c))
      rw [show n - c + (f - (n - c)) = f by omega] at h9
      exact h9
     have HSn := Lh hsn
     clear hsn
     go_wp2_with fail
     go_roundg (n - c)
     case measure => omega
     case rel => exact ⟨c, rfl, hcn, by omega, HSn, HWw3⟩
    ·have HL0 : Hid (lessL k (T.key j) = false) := Lh h0
     have HL1 : Hid (lessL (T.key j) k = false) := Lh h1
     clear h0 h1
     have p0 := HXwr.o.blk.cell (i := 0) rfl
     have p1 := HXwr.o.blk.cell (i := 1) rfl
     have p2 := HXwr.o.blk.cell (i := 2) rfl
     have p3 : wr.cell? ⟨gK, j, none⟩ = some (.slice (some ⟨pg, 0, none⟩) (T.key j).length pc) := (Rw.at_own (by have h9 := HXwr.o.kK; rw [<- HN.o] at h9; exact h9)).cell (keyV_get HKj.o HPj.o)
     have p4 : wr.cell? ⟨gL, j, none⟩ = some (.int .i64 (T.l j)) := (Rw.at_own (by have h9 := HXwr.o.kL; rw [HnL.o] at h9; exact h9)).cell (ints_get (T_l HTB.o (by rw [<- HN.o]; exact hjn)))
     have p5 : wr.cell? ⟨gR, j, none⟩ = some (.int .i64 (T.r j)) := (Rw.at_own (by have h9 := HXwr.o.kR; rw [HnR.o] at h9; exact h9)).cell (ints_get (T_r HTB.o (by rw [<- HN.o]; exact hjn)))
     go_upto_region 9 with (go_at_call 34; go_must (refine (less_b HL0.o (some ⟨g, 0, none⟩) (some ⟨pg, 0, none⟩) k.length (T.key j).length cap pc _ HKswr.o HQswr.o HKm.o HQm.o).mono ?_; rintro e w2 ⟨rfl, hb9⟩))
     have HXw2 := Lh (HXwr.o.on hb9)
     have HWw2 := Lh (HWwr.o.trans (hb9.mono HWwr.o.size))
     have HKsw2 := Lh ((HKswr.o.below hb9).up hb9.size)
     have HQsw2 := Lh ((HQswr.o.below hb9).up hb9.size)
     clear hb9
     clear p0 p1 p2 p3 p4 p5
     have p0 := HXw2.o.blk.cell (i := 0) rfl
     have p1 := HXw2.o.blk.cell (i := 1) rfl
     have p2 := HXw2.o.blk.cell (i := 2) rfl
     have p3 : w2.cell? ⟨gK, j, none⟩ = some (.slice (some ⟨pg, 0, none⟩) (T.key j).length pc) := (Rw.at_own (by have h9 := HXw2.o.kK; rw [<- HN.o] at h9; exact h9)).cell (keyV_get HKj.o HPj.o)
     have p4 : w2.cell? ⟨gL, j, none⟩ = some (.int .i64 (T.l j)) := (Rw.at_own (by have h9 := HXw2.o.kL; rw [HnL.o] at h9; exact h9)).cell (ints_get (T_l HTB.o (by rw [<- HN.o]; exact hjn)))
     have p5 : w2.cell? ⟨gR, j, none⟩ = some (.int .i64 (T.r j)) := (Rw.at_own (by have h9 := HXw2.o.kR; rw [HnR.o] at h9; exact h9)).cell (ints_get (T_r HTB.o (by rw [<- HN.o]; exact hjn)))
     go_upto_region 12 with (go_at_call 34; go_must (refine (less_b HL1.o (some ⟨pg, 0, none⟩) (some ⟨g, 0, none⟩) (T.key j).length k.length pc cap _ HQsw2.o HKsw2.o HQm.o HKm.o).mono ?_; rintro e w3 ⟨rfl, hb9⟩))
     have HXw3 := Lh (HXw2.o.on hb9)
     have HWw3 := Lh (HWw2.o.trans (hb9.mono HWw2.o.size))
     have HKsw3 := Lh ((HKsw2.o.below hb9).up hb9.size)
     have HQsw3 := Lh ((HQsw2.o.below hb9).up hb9.size)
     clear hb9
     clear p0 p1 p2 p3 p4 p5
     have p0 := HXw3.o.blk.cell (i := 0) rfl
     have p1 := HXw3.o.blk.cell (i := 1) rfl
     have p2 := HXw3.o.blk.cell (i := 2) rfl
     have p3 : w3.cell? ⟨gK, j, none⟩ = some (.slice (some ⟨pg, 0, none⟩) (T.key j).length pc) := (Rw.at_own (by have h9 := HXw3.o.kK; rw [<- HN.o] at h9; exact h9)).cell (keyV_get HKj.o HPj.o)
     have p4 : w3.cell? ⟨gL, j, none⟩ = some (.int .i64 (T.l j)) := (Rw.at_own (by have h9 := HXw3.o.kL; rw [HnL.o] at h9; exact h9)).cell (ints_get (T_l HTB.o (by rw [<- HN.o]; exact hjn)))
     have p5 : w3.cell? ⟨gR, j, none⟩ = some (.int .i64 (T.r j)) := (Rw.at_own (by have h9 := HXw3.o.kR; rw [HnR.o] at h9; exact h9)).cell (ints_get (T_r HTB.o (by rw [<- HN.o]; exact hjn)))
     go_wp2_with fail
     go_ret2
     have hsh : srch T k T.ks.length 0 = .hit j := by
      rw [HS.o]
      obtain ⟨f, hf⟩ : ∃ f, gk = f + 1 := ⟨gk - 1, by omega⟩
      rw [hf]
      exact srch_hit HL0.o HL1.o
     have hp := putT_hit (by rw [<- HN.o]; exact hn0) hsh
     refine PutR.hit hp rfl ⟨?_, HTW.o⟩ HWw3.o
     exact HXw3.o
 case rest =>
  obtain ⟨HWwc, HC⟩ := hcut
  have HX0 := Lh (HX.o.on HWwc.o)
  have HF0 : Hid (Fr (trF gt (.slice AK n cK) (.slice AL n cL) (.slice AR n cR)) w wc) := Lh (Fr.of HWwc.o)
  have HK0 := Lh (HK.o.on HWwc.o)
  have o0 : Hid (wc.ownsRow B 22 1 (.slice AK n cK) n (keyV hs T.ks)) := by have h9 := HX0.o.kK; rw [<- HN.o] at h9; exact Lh h9
  have p0 := HX0.o.blk.cell (i := 0) rfl
  go_upto_region 16 with (at_builtin; go_must (refine wpList_app _ rfl _ _ 72 rfl B 22 is (.slice none 0 0) 1 24 Tryz.underlying72 his hisz hiss hisb rfl (by decide) (.slice AK n cK) n (keyV hs T.ks) rfl (o0.out.alloc _) (wc.heap.size + 1) (some ⟨wc.heap.size, 0, none⟩) 1 1 [.slice (some ⟨g, 0, none⟩) k.length cap] rfl (((Blk.new wc 22 _).sl rfl).up (by simp)) (one_slT _ _ _) (n + 1) rfl _ rfl _ rfl (by simp only [maxLen]; omega) (by omega) (by have := HF0.o.size; rw [World.size_alloc]; omega) ?_; intro A0' k0' w0' hown hg hat hk7 hk8; have hB9 := (HX0.o.blk.alloc (.cells #[.slice (some ⟨g, 0, none⟩) k.length cap] 22)).grown hg (own_nb (o0.out.alloc (.cells #[.slice (some ⟨g, 0, none⟩) k.length cap] 22)) (HX0.o.blk.alloc (.cells #[.slice (some ⟨g, 0, none⟩) k.length cap] 22)) (by decide)); have d1 : w0'.cell? ⟨gt, 0, none⟩ = some (.slice AK n cK) := hB9.cell rfl; have df := hB9.frozen 0; clear hB9))
  have hXA := HX0.o.on (W' := wc.alloc (.cells #[.slice (some ⟨g, 0, none⟩) k.length cap] 22)) ((Below.refl _ _).alloc (Nat.le_refl _) _)
  have HQ0 : Hid (∀ q, some q = (Value.slice A0' (n + 1) k0').ownBlock -> some q = (Value.slice AK n cK).ownBlock ∨ w.heap.size <= q) := Lh fun q hq => by
   rcases hat with h9 | h9
   ·exact Or.inl (hq.trans h9)
   ·rw [h9] at hq
    injection hq with hq
    have := HF0.o.size
    rw [World.size_alloc] at hq
    exact Or.inr (by omega)
  obtain ⟨W1, hZ, HX1, HF1⟩ : ∃ Z9, Z9 = w0'.setCell ⟨gt, 0, none⟩ (.slice A0' (n + 1) k0') /\ Hid (TrX Z9 B gt (T.ks ++ [k]) T.L T.R (.slice A0' (n + 1) k0') (.slice AL n cL) (.slice AR n cR) (hs ++ [(g, cap)])) /\ Hid (Fr (trF gt (.slice AK n cK) (.slice AL n cL) (.slice AR n cR)) w Z9) :=
   ⟨_, rfl, hXA.addK hg (by rw [<- HN.o]; exact hown) (HK0.o.on ((Below.refl _ _).alloc (Nat.le_refl _) _)) H1.o H2.o, ((HF0.o.alloc _).gbw hg (fun q hq => Or.inl (Or.inr (Or.inl hq.symm)))).setCell (Or.inl rfl) _⟩
  rw [<- hZ]
  clear hZ d1 df hXA hown hg hat p0 o0 HX0 HF0
  have o1 : Hid (W1.ownsRow B 3 1 (.slice AL n cL) n (ints T.L)) := by have h9 := HX1.o.kL; rw [HnL.o] at h9; exact Lh h9
  have p1 := HX1.o.blk.cell (i := 1) rfl
  go_upto_region 17 with (at_builtin; go_must (refine wpList_app _ rfl _ _ 22 rfl B 3 ii (.int .i64 0) 1 8 Tryz.underlying22 hii hiiz hiis hiib rfl (by decide) (.slice AL n cL) n (ints T.L) rfl (o1.out.alloc _) (W1.heap.size + 1) (some ⟨W1.heap.size, 0, none⟩) 1 1 [.int .i64 (-1)] rfl (((Blk.new W1 3 _).sl rfl).up (by simp)) (one_inT _) (n + 1) rfl _ rfl _ rfl (by simp only [maxLen]; omega) (by omega) (by have := HF1.o.size; rw [World.size_alloc]; omega) ?_; intro A1' k1' w1' hown hg hat hk7 hk8; have hB9 := (HX1.o.blk.alloc (.cells #[.int .i64 (-1)] 3)).grown hg (own_nb (o1.out.alloc (.cells #[.int .i64 (-1)] 3)) (HX1.o.blk.alloc (.cells #[.int .i64 (-1)] 3)) (by decide)); have d1 : w1'.cell? ⟨gt, 1, none⟩ = some (.slice AL n cL) := hB9.cell rfl; have df := hB9.frozen 1; clear hB9))
  have hXA := HX1.o.on (W' := W1.alloc (.cells #[.int .i64 (-1)] 3)) ((Below.refl _ _).alloc (Nat.le_refl _) _)
  have HQ1 : Hid (∀ q, some q = (Value.slice A1' (n + 1) k1').ownBlock -> some q = (Value.slice AL n cL).ownBlock ∨ w.heap.size <= q) := Lh fun q hq => by
   rcases hat with h9 | h9
   ·exact Or.inl (hq.trans h9)
   ·rw [h9] at hq
    injection hq with hq
    have := HF1.o.size
    rw [World.size_alloc] at hq
    exact Or.inr (by omega)
  obtain ⟨W2, hZ, HX2, HF2⟩ : ∃ Z9, Z9 = w1'.setCell ⟨gt, 1, none⟩ (.slice A1' (n + 1) k1') /\ Hid (TrX Z9 B gt (T.ks ++ [k]) (T.L ++ [-1]) T.R (.slice A0' (n + 1) k0') (.slice A1' (n + 1) k1') (.slice AR n cR) (hs ++ [(g, cap)])) /\ Hid (Fr (trF gt (.slice AK n cK) (.slice AL n cL) (.slice AR n cR)) w Z9) :=
   ⟨_, rfl, hXA.addL hg (by rw [HnL.o]; exact hown) hat (Nat.le_refl _), ((HF1.o.alloc _).gbw hg (fun q hq => Or.inl (Or.inr (Or.inr (Or.inl hq.symm))))).setCell (Or.inl rfl) _⟩
  rw [<- hZ]
  clear hZ d1 df hXA hown hg hat p1 o1 HX1 HF1
  have o2 : Hid (W2.ownsRow B 3 1 (.slice AR n cR) n (ints T.R)) := by have h9 := HX2.o.kR; rw [HnR.o] at h9; exact Lh h9
  have p2 := HX2.o.blk.cell (i := 2) rfl
  go_upto_region 18 with (at_builtin; go_must (refine wpList_app _ rfl _ _ 22 rfl B 3 ii (.int .i64 0) 1 8 Tryz.underlying22 hii hiiz hiis hiib rfl (by decide) (.slice AR n cR) n (ints T.R) rfl (o2.out.alloc _) (W2.heap.size + 1) (some ⟨W2.heap.size, 0, none⟩) 1 1 [.int .i64 (-1)] rfl (((Blk.new W2 3 _).sl rfl).up (by simp)) (one_inT _) (n + 1) rfl _ rfl _ rfl (by simp only [maxLen]; omega) (by omega) (by have := HF2.o.size; rw [World.size_alloc]; omega) ?_; intro A2' k2' w2' hown hg hat hk7 hk8; have hB9 := (HX2.o.blk.alloc (.cells #[.int .i64 (-1)] 3)).grown hg (own_nb (o2.out.alloc (.cells #[.int .i64 (-1)] 3)) (HX2.o.blk.alloc (.cells #[.int .i64 (-1)] 3)) (by decide)); have d1 : w2'.cell? ⟨gt, 2, none⟩ = some (.slice AR n cR) := hB9.cell rfl; have df := hB9.frozen 2; clear hB9))
  have hXA := HX2.o.on (W' := W2.alloc (.cells #[.int .i64 (-1)] 3)) ((Below.refl _ _).alloc (Nat.le_refl _) _)
  have HQ2 : Hid (∀ q, some q = (Value.slice A2' (n + 1) k2').ownBlock -> some q = (Value.slice AR n cR).ownBlock ∨ w.heap.size <= q) := Lh fun q hq => by
   rcases hat with h9 | h9
   ·exact Or.inl (hq.trans h9)
   ·rw [h9] at hq
    injection hq with hq
    have := HF2.o.size
    rw [World.size_alloc] at hq
    exact Or.inr (by omega)
  obtain ⟨W3, hZ, HX3, HF3⟩ : ∃ Z9, Z9 = w2'.setCell ⟨gt, 2, none⟩ (.slice A2' (n + 1) k2') /\ Hid (TrX Z9 B gt (T.ks ++ [k]) (T.L ++ [-1]) (T.R ++ [-1]) (.slice A0' (n + 1) k0') (.slice A1' (n + 1) k1') (.slice A2' (n + 1) k2') (hs ++ [(g, cap)])) /\ Hid (Fr (trF gt (.slice AK n cK) (.slice AL n cL) (.slice AR n cR)) w Z9) :=
   ⟨_, rfl, hXA.addR hg (by rw [HnR.o]; exact hown) hat (Nat.le_refl _), ((HF2.o.alloc _).gbw hg (fun q hq => Or.inl (Or.inr (Or.inr (Or.inr hq.symm))))).setCell (Or.inl rfl) _⟩
  rw [<- hZ]
  clear hZ d1 df hXA hown hg hat p2 o2 HX2 HF2
  have HQ : Hid (∀ q, trF gt (.slice A0' (n + 1) k0') (.slice A1' (n + 1) k1') (.slice A2' (n + 1) k2') q -> trF gt (.slice AK n cK) (.slice AL n cL) (.slice AR n cR) q ∨ w.heap.size <= q) := Lh fun q hq => by
   rcases hq with h9 | h9 | h9 | h9
   ·exact Or.inl (Or.inl h9)
   ·exact (HQ0.o q h9).imp (fun h8 => Or.inr (Or.inl h8)) id
   ·exact (HQ1.o q h9).imp (fun h8 => Or.inr (Or.inr (Or.inl h8))) id
   ·exact (HQ2.o q h9).imp (fun h8 => Or.inr (Or.inr (Or.inr h8))) id
  rcases HC.o with ⟨hn0, rfl, rfl⟩ | ⟨a, r, hn0, rfl, rfl, hm⟩
  ·have Hn0 := Lh hn0
   clear hn0 HC
   go_wp2_with fail
   go_ret2
   have e1 := List.eq_nil_of_length_eq_zero Hn0.o
   have e2 := List.eq_nil_of_length_eq_zero (HTB.o.l.trans Hn0.o)
   have e3 := List.eq_nil_of_length_eq_zero (HTB.o.r.trans Hn0.o)
   refine HEnd.o _ _ (PutR.new (putT_zero Hn0.o) (ret_nat (HN.o.trans Hn0.o)) ⟨?_, TrW.one k⟩ HF3.o HQ.o)
   have h9 := HX3.o
   rw [e1, e2, e3] at h9
   exact h9
  ·rw [<- HN.o] at hn0
   have Hm := Lh hm
   have han : a < n := by
    rw [HN.o]
    exact (srch_miss_at HTB.o _ _ _ _ (by rw [<- HN.o]; exact hn0) (by omega) hm).1
   have e0 : (0 : Int) <= a := by omega
   have e1 : (a : Int) < ((n + 1 : Nat) : Int) := by omega
   have e2 : (a : Int) < (n : Int) + 1 := by omega
   have e3 : a < n + 1 := by omega
   have d0 : decide ((0 : Int) <= (a : Int)) = true := by simp
   clear hm HC
   have hlL : (T.L ++ [-1]).length = n + 1 := by rw [List.length_append, HnL.o]; rfl
   have hlR : (T.R ++ [-1]).length = n + 1 := by rw [List.length_append, HnR.o]; rfl
   cases r
   ·obtain ⟨gq, hgq, _, _, hrw⟩ := own_set (a := a) (z := (n : Int)) (by rw [<- hlL]; have h9 := HX3.o.kL; rw [hlL] at h9 ⊢; exact h9) (by omega : 0 < n + 1)
    subst hgq
    have HXs : Hid (TrX W3 B gt (T.ks ++ [k]) (T.L ++ [-1]) (T.R ++ [-1]) (.slice A0' (n + 1) k0') (.slice (some ⟨gq, 0, none⟩) (T.L ++ [-1]).length k1') (.slice A2' (n + 1) k2') (hs ++ [(g, cap)])) := by rw [hlL]; exact HX3
    have c1 := HX3.o.blk.cell (i := 1) rfl
    have c2 : W3.cell? ⟨gq, a, none⟩ = some (.int .i64 ((T.L ++ [-1]).getD a 0)) := hrw.cell (ints_get (by rw [List.getD_eq_getElem?_getD]; simp [hlL, e3]))
    have c3 := hrw.frozen a
    have HL := Lh hlL
    clear hrw hlL hlR
    go_wp2_with fail
    go_ret2
    refine HEnd.o _ _ (PutR.new (putT_miss (by rw [<- HN.o]; exact hn0) Hm.o) (ret_nat HN.o) ⟨?_, hang_W HTW.o (by rw [<- HN.o]; exact hn0) Hm.o⟩ (HF3.o.gbw (gb_setCell (World.grownBy.refl W3 (some gq)) _ _) (fun q hq => by injection hq with hq; subst hq; rcases HQ1.o gq rfl with h8 | h8; exact Or.inl (Or.inr (Or.inr (Or.inl h8))); exact Or.inr h8)) HQ.o)
    have h9 := HXs.o.setL (a := a) (z := (n : Int)) (by rw [HL.o]; omega)
    rw [HL.o, List.set_append_left _ _ (by rw [HnL.o]; exact han), HN.o] at h9
    rw [HN.o]
    exact h9
   ·obtain ⟨gq, hgq, _, _, hrw⟩ := own_set (a := a) (z := (n : Int)) (by rw [<- hlR]; have h9 := HX3.o.kR; rw [hlR] at h9 ⊢; exact h9) (by omega : 0 < n + 1)
    subst hgq
    have HXs : Hid (TrX W3 B gt (T.ks ++ [k]) (T.L ++ [-1]) (T.R ++ [-1]) (.slice A0' (n + 1) k0') (.slice A1' (n + 1) k1') (.slice (some ⟨gq, 0, none⟩) (T.R ++ [-1]).length k2') (hs ++ [(g, cap)])) := by rw [hlR]; exact HX3
    have c1 := HX3.o.blk.cell (i := 2) rfl
    have c2 : W3.cell? ⟨gq, a, none⟩ = some (.int .i64 ((T.R ++ [-1]).getD a 0)) := hrw.cell (ints_get (by rw [List.getD_eq_getElem?_getD]; simp [hlR, e3]))
    have c3 := hrw.frozen a
    have HL := Lh hlR
    clear hrw hlL hlR
    go_wp2_with fail
    go_ret2
    refine HEnd.o _ _ (PutR.new (putT_miss (by rw [<- HN.o]; exact hn0) Hm.o) (ret_nat HN.o) ⟨?_, hang_W HTW.o (by rw [<- HN.o]; exact hn0) Hm.o⟩ (HF3.o.gbw (gb_setCell (World.grownBy.refl W3 (some gq)) _ _) (fun q hq => by injection hq with hq; subst hq; rcases HQ2.o gq rfl with h8 | h8; exact Or.inl (Or.inr (Or.inr (Or.inr h8))); exact Or.inr h8)) HQ.o)
    have h9 := HXs.o.setR (a := a) (z := (n : Int)) (by rw [HL.o]; omega)
    rw [HL.o, List.set_append_left _ _ (by rw [HnR.o]; exact han), HN.o] at h9
    rw [HN.o]
    exact h9
end Go.Proofs.YtgjdgapfnfhklaaGreat
