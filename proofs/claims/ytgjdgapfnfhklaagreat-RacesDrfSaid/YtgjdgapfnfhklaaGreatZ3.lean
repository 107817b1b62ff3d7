/-
reclaimref19.Classic at every name; reclaimref19.Names. recl
-/
import Derived.Test.YtgjdgapfnfhklaaGreatPrt
import Derived.Test.YtgjdgapfnfhklaaGreatZ25
import Derived.Test.YtgjdgapfnfhklaaGreatPfr
import Derived.Test.YtgjdgapfnfhklaaGreatZ0
import Derived.Test.YtgjdgapfnfhklaaGreatZ17
set_option linter.unusedSimpArgs false
set_option linter.unusedVariables false
set_option maxRecDepth 100000
set_option maxHeartbeats 16000000
namespace Go.Proofs.YtgjdgapfnfhklaaGreat
open Go.RowKit
theorem classic8 (w : World) : Calls Tryz.prog 15 #[.string ⟨#[112, 114, 111, 116, 101, 99, 116]⟩] w (ClsR 8 w) := by
 have HP := Lh protF
 have HB0 : Hid (Blk (w.alloc (.cells #[.slice none 0 0, .slice none 0 0] 25)) w.heap.size 25 [.slice none 0 0, .slice none 0 0]) := Lh (Blk.new _ _ _)
 have HW0 : Hid (Below w.heap.size w (w.alloc (.cells #[.slice none 0 0, .slice none 0 0] 25))) := Lh ((Below.refl _ _).alloc (Nat.le_refl _) _)
 go_enter Tryz.func15, Tryz.ntmps15
 go_upto_region 1 with fail
 generalize w.alloc (.cells #[.slice none 0 0, .slice none 0 0] 25) = w0 at HB0 HW0 ⊢
 go_wp2_with fail
 refine (HP.o _).mono ?_
 rintro e w1 ⟨l, rfl, hw, hc, hb, hat⟩
 have HW := Lh hw
 have HC := Lh hc
 have HAt := Lh hat
 have HB1 := HB0.o.below hb HB0.o.lt
 have HW1 := Lh (HW0.o.trans (hb.mono HW0.o.size))
 have HBk := Lh HB1
 have hz := HB0.o.lt
 have c0 := HB1.cell (i := 0) rfl
 have c1 := HB1.cell (i := 1) rfl
 have f0 := HB1.frozen 0
 have f1 := HB1.frozen 1
 clear hw hc hat hb HB1 HB0
 go_wp2_with fail
 have HBf := (HBk.o.set_ 0 (.slice l.wA l.wn l.wk)).set_ 1 (.slice l.tA l.tn l.tk)
 refine bodyPost_ret_by (results_cell_row2 rfl _ _ w.heap.size 25 #[.slice l.wA l.wn l.wk, .slice l.tA l.tn l.tk] (0, 0) _ rfl HBf Tryz.underlying25 rfl size_lit) rfl ?_
 refine ⟨l, rfl, HW.o, HC.o, ?_, (HW1.o.setCell (Nat.le_refl _) _).setCell (Nat.le_refl _) _⟩
 refine HAt.o _ (fun q h1 h2 => ?_) (by simp)
 rw [Below.heap_setCell _ _ _ q (by simp; omega), Below.heap_setCell _ _ _ q (by simp; omega)]
theorem classic9 (w : World) : Calls Tryz.prog 15 #[.string ⟨#[112, 114, 111, 116, 101, 99, 116, 43, 102, 101, 110, 99, 101]⟩] w (ClsR 9 w) := by
 have HP := Lh protT
 have HB0 : Hid (Blk (w.alloc (.cells #[.slice none 0 0, .slice none 0 0] 25)) w.heap.size 25 [.slice none 0 0, .slice none 0 0]) := Lh (Blk.new _ _ _)
 have HW0 : Hid (Below w.heap.size w (w.alloc (.cells #[.slice none 0 0, .slice none 0 0] 25))) := Lh ((Below.refl _ _).alloc (Nat.le_refl _) _)
 go_enter Tryz.func15, Tryz.ntmps15
 go_upto_region 1 with fail
 generalize w.alloc (.cells #[.slice none 0 0, .slice none 0 0] 25) = w0 at HB0 HW0 ⊢
 go_wp2_with fail
 refine (HP.o _).mono ?_
 rintro e w1 ⟨l, rfl, hw, hc, hb, hat⟩
 have HW := Lh hw
 have HC := Lh hc
 have HAt := Lh hat
 have HB1 := HB0.o.below hb HB0.o.lt
 have HW1 := Lh (HW0.o.trans (hb.mono HW0.o.size))
 have HBk := Lh HB1
 have hz := HB0.o.lt
 have c0 := HB1.cell (i := 0) rfl
 have c1 := HB1.cell (i := 1) rfl
 have f0 := HB1.frozen 0
 have f1 := HB1.frozen 1
 clear hw hc hat hb HB1 HB0
 go_wp2_with fail
 have HBf := (HBk.o.set_ 0 (.slice l.wA l.wn l.wk)).set_ 1 (.slice l.tA l.tn l.tk)
 refine bodyPost_ret_by (results_cell_row2 rfl _ _ w.heap.size 25 #[.slice l.wA l.wn l.wk, .slice l.tA l.tn l.tk] (0, 0) _ rfl HBf Tryz.underlying25 rfl size_lit) rfl ?_
 refine ⟨l, rfl, HW.o, HC.o, ?_, (HW1.o.setCell (Nat.le_refl _) _).setCell (Nat.le_refl _) _⟩
 refine HAt.o _ (fun q h1 h2 => ?_) (by simp)
 rw [Below.heap_setCell _ _ _ q (by simp; omega), Below.heap_setCell _ _ _ q (by simp; omega)]
def nmS : Nat -> ByteArray
 | 0 => ⟨#[83, 66]⟩
 | 1 => ⟨#[77, 80]⟩
 | 2 => ⟨#[76, 66]⟩
 | 3 => ⟨#[73, 82, 73, 87]⟩
 | 4 => ⟨#[82]⟩
 | 5 => ⟨#[83]⟩
 | 6 => ⟨#[50, 43, 50, 87]⟩
 | 7 => ⟨#[83, 66, 43, 102, 101, 110, 99, 101]⟩
 | 8 => ⟨#[112, 114, 111, 116, 101, 99, 116]⟩
 | _ => ⟨#[112, 114, 111, 116, 101, 99, 116, 43, 102, 101, 110, 99, 101]⟩
theorem classic_any (k : Nat) (hk : k < 10) (w : World) : Calls Tryz.prog 15 #[.string (nmS k)] w (ClsR k w) :=
 match k, hk with
 | 0, _ => classic0 w
 | 1, _ => classic1 w
 | 2, _ => classic2 w
 | 3, _ => classic3 w
 | 4, _ => classic4 w
 | 5, _ => classic5 w
 | 6, _ => classic6 w
 | 7, _ => classic7 w
 | 8, _ => classic8 w
 | 9, _ => classic9 w
def nmL : List Value := [.string (nmS 0), .string (nmS 1), .string (nmS 2), .string (nmS 3), .string (nmS 4), .string (nmS 5), .string (nmS 6), .string (nmS 7), .string (nmS 8), .string (nmS 9)]
theorem nmL_get {k : Nat} (hk : k < 10) : nmL[k]? = some (.string (nmS k)) :=
 match k, hk with
 | 0, _ => rfl
 | 1, _ => rfl
 | 2, _ => rfl
 | 3, _ => rfl
 | 4, _ => rfl
 | 5, _ => rfl
 | 6, _ => rfl
 | 7, _ => rfl
 | 8, _ => rfl
 | 9, _ => rfl
theorem names_any (w : World) : Calls Tryz.prog 14 #[] w (fun e w' => ∃ g, e = .returned (.slice (some ⟨g, 0, none⟩) 10 10) /\ Blk w' g 9 nmL /\ Below w.heap.size w w') := by
 go_enter Tryz.func14, Tryz.ntmps14
 go_wp2_with fail
 go_ret
 exact ⟨_, rfl, Blk.new w 9 nmL, (Below.refl _ _).alloc (Nat.le_refl _) _⟩
end Go.Proofs.YtgjdgapfnfhklaaGreat
namespace Go.Proofs.YtgjdgapfnfhklaaGreat
open Go.RowKit
abbrev exW (w : World) : World := (((w.alloc (.cells #[.int .i64 0, .int .i64 0] 3)).alloc (.cells #[.int .i64 2, .int .i64 0, .int .i64 0, .int .i64 5, .int .i64 (-1), .int .i64 0, .int .i64 0, .int .i64 3, .int .i64 0, .int .i64 1, .int .i64 1, .int .i64 0, .int .i64 0, .int .i64 0] 68)).alloc (.cells #[.int .i64 3, .int .i64 0, .int .i64 1, .int .i64 2, .int .i64 0, .int .i64 1, .int .i64 0, .int .i64 7, .int .i64 0, .int .i64 0, .int .i64 0, .int .i64 0, .int .i64 0, .int .i64 1, .int .i64 1, .int .i64 1, .int .i64 0, .int .i64 0, .int .i64 0, .int .i64 0, .int .i64 0] 68)).alloc (.cells #[.slice (some ⟨w.heap.size + 1, 0, none⟩) 2 2, .slice (some ⟨w.heap.size + 1 + 1, 0, none⟩) 3 3] 69)
def exT (w : World) : List (Hd × List Ins) := [((some ⟨w.heap.size + 1, 0, none⟩, 2, 2), [stI 0 5, swI 0 1 0 1]), ((some ⟨w.heap.size + 1 + 1, 0, none⟩, 3, 3), [swI 0 1 1 2, skI 0 0, ldI 1 0])]
theorem ex4_at (w : World) : LitAt (exW w) (exW w).heap.size ⟨some ⟨w.heap.size, 0, none⟩, 2, 2, [0, 0], some ⟨w.heap.size + 1 + 1 + 1, 0, none⟩, 2, 2, exT w⟩ := by
 have a0 : Blk (exW w) w.heap.size 3 (ints [0, 0]) := (((Blk.new w 3 (ints [0, 0])).alloc _).alloc _).alloc _
 have a1 : Blk (exW w) (w.heap.size + 1) 68 (insVals [stI 0 5, swI 0 1 0 1]) := by
  have h9 := Blk.new (w.alloc (.cells #[.int .i64 0, .int .i64 0] 3)) 68 (insVals [stI 0 5, swI 0 1 0 1])
  rw [World.size_alloc] at h9
  exact (h9.alloc _).alloc _
 have a2 : Blk (exW w) (w.heap.size + 1 + 1) 68 (insVals [swI 0 1 1 2, skI 0 0, ldI 1 0]) := by
  have h9 := Blk.new ((w.alloc (.cells #[.int .i64 0, .int .i64 0] 3)).alloc (.cells (insVals [stI 0 5, swI 0 1 0 1]).toArray 68)) 68 (insVals [swI 0 1 1 2, skI 0 0, ldI 1 0])
  rw [World.size_alloc, World.size_alloc] at h9
  exact h9.alloc _
 have a3 : Blk (exW w) (w.heap.size + 1 + 1 + 1) 69 ((exT w).map fun c => hdV c.1) := by
  have h9 := Blk.new (((w.alloc (.cells #[.int .i64 0, .int .i64 0] 3)).alloc (.cells (insVals [stI 0 5, swI 0 1 0 1]).toArray 68)).alloc (.cells (insVals [swI 0 1 1 2, skI 0 0, ldI 1 0]).toArray 68)) 69 ((exT w).map fun c => hdV c.1)
  rw [World.size_alloc, World.size_alloc, World.size_alloc] at h9
  exact h9
 refine lit_of (ws := [0, 0]) (cs := exT w) a0 a3 ⟨by simp, by simp [exT]⟩ ?_
 intro c hc
 simp only [exT, List.mem_cons, List.not_mem_nil, or_false] at hc
 rcases hc with rfl | rfl
 ·exact code_of (c := [stI 0 5, swI 0 1 0 1]) a1 (by decide) (by decide)
 ·exact code_of (c := [swI 0 1 1 2, skI 0 0, ldI 1 0]) a2 (by decide) (by decide)
theorem free_free {l : Lit} {W : World} (h : LitAt W W.heap.size l) (h1 : okLit l = true) (h2 : WfL l) (h3 : freeN l = .free) : Calls Tryz.prog 8 #[litV l] W (fun e w' => e = .returned (.tuple #[.bool true, .slice none 0 0, .int .i64 0]) /\ Below W.heap.size W w') :=
 (pfree_any l W h h1 h2).mono fun e w' hp => by
  rw [h3] at hp
  exact hp
theorem exW_below (w : World) : Below w.heap.size w (exW w) := ((((Below.refl _ _).alloc (Nat.le_refl _) _).alloc (by simp) _).alloc (by simp; omega) _).alloc (by simp; omega) _
theorem ex4_free (w : World) : Calls Tryz.prog 8 #[.agg #[.slice (some ⟨w.heap.size, 0, none⟩) 2 2, .slice (some ⟨w.heap.size + 1 + 1 + 1, 0, none⟩) 2 2]] (exW w) (fun e w' => e = .returned (.tuple #[.bool true, .slice none 0 0, .int .i64 0]) /\ Below w.heap.size w w') := by
 obtain ⟨h1, h2, h3⟩ := ex4_ok (l := ⟨some ⟨w.heap.size, 0, none⟩, 2, 2, [0, 0], some ⟨w.heap.size + 1 + 1 + 1, 0, none⟩, 2, 2, exT w⟩) rfl rfl rfl rfl (fun y hy => by
  simp only [exT, List.mem_cons, List.not_mem_nil, or_false] at hy
  rcases hy with rfl | rfl <;> rfl)
 exact (free_free (ex4_at w) h1 h2 h3).mono fun e w' ⟨he, hb⟩ => ⟨he, (exW_below w).trans (hb.mono (exW_below w).size)⟩
theorem classics_any (w : World) : Calls Tryz.prog 5 #[] w (BoolR true w) := by
 have HN := Lh names_any
 have HCl := Lh classic_any
 go_enter Tryz.func5, Tryz.ntmps5
 go_wp2_with fail
 refine (HN.o _).mono ?_
 rintro e w1 ⟨gn, rfl, hbn, hb1⟩
 have HBn := Lh hbn
 have HW1 := Lh hb1
 clear hbn hb1
 go_wp2_with fail
 go_loopg [2] 10 (fun gk i wr => ∃ j : Nat, i = .int .i64 j /\ j + gk = 10 /\ Hid (Below w1.heap.size w1 wr))
 case atStart => exact ⟨0, rfl, rfl, Lh (Below.refl _ _)⟩
 case round =>
  obtain ⟨j, rfl, hj, HB⟩ := hrel
  by_cases hlt : j < 10
  ·have e1 : (j : Int) < 10 := by omega
   have e0 : (0 : Int) <= j := by omega
   have n0 : wr.cell? ⟨gn, j, none⟩ = some (.string (nmS j)) := (HBn.o.below HB.o HBn.o.lt).cell (nmL_get hlt)
   go_wp2_with fail
   refine (HCl.o j hlt wr).mono ?_
   rintro e w2 ⟨l, rfl, hw, hc, hat, hb2⟩
   have HOk := Lh (cls_ok hlt hw hc hat.wlen hat.tlen (fun y hy => (hat.clen hy).symm))
   have HL2 := Lh hat
   have HB2 := Lh (HB.o.trans (hb2.mono HB.o.size))
   clear hw hc hat hb2 n0
   obtain ⟨wy, hwy⟩ : ∃ wy, wy = wayC j := ⟨_, rfl⟩
   rw [<- hwy] at HOk
   clear hwy
   go_upto_region 6 with fail
   refine wp_name ?_
   intro w3 hV
   obtain ⟨gl, hgl⟩ : ∃ gl, gl = w2.heap.size := ⟨_, rfl⟩
   rw [<- hgl]
   have HB3 := Lh (show Below w1.heap.size w1 w3 by rw [hV]; exact HB2.o.alloc HB2.o.size _)
   have HT3 := Lh (show Blk w3 gl 25 (litL l) by rw [hV, hgl]; exact Blk.new w2 25 (litL l))
   have HX3 : Hid (Below w2.heap.size w2 w3) := Lh (by rw [hV]; exact (Below.refl _ _).alloc (Nat.le_refl _) _)
   have HL3 := Lh ((HL2.o.keep HX3.o).up HX3.o.size)
   have HFr := Lh (pfree_any l w3 HL3.o HOk.o.ok HOk.o.wf)
   clear hV hgl HX3 HL2 HB2
   have q0 := HT3.o.cell (i := 0) rfl
   have q1 := HT3.o.cell (i := 1) rfl
   go_wp2_with fail
   refine HFr.o.mono ?_
   intro e w4 hfp
   rw [HOk.o.free] at hfp
   obtain ⟨A1, k1, rfl, ho1, hb4⟩ := hfp
   have HL4 := Lh ((HL3.o.keep hb4).up hb4.size)
   have HT4 := Lh (HT3.o.below hb4 HT3.o.lt)
   have HB4 := Lh (HB3.o.trans (hb4.mono HB3.o.size))
   have HO4 := Lh (Sl.of_own ho1)
   have hkk : wy.length <= k1 /\ k1 <= maxLen := by
    obtain ⟨_, _, he, h1, h2⟩ := own_form ho1
    injection he with _ _ he
    subst he
    exact ⟨h1, h2⟩
   clear HFr HL3 HT3 HB3 ho1 hb4 q0 q1
   obtain ⟨p1, p2⟩ := HOk.o.pos
   obtain ⟨n, hn⟩ : ∃ n, n = wy.length := ⟨_, rfl⟩
   rw [<- hn] at HO4 hkk p1 p2 ⊢
   have HNn := Lh hn
   clear hn
   obtain ⟨hk1, hk2⟩ := hkk
   unfold maxLen at hk2
   have b1 : ((0 : Int) != 0) = false := rfl
   have b2 : ((n : Int) == 0) = false := by simp; omega
   have b3 : ¬ ((n : Int) = 0) := by omega
   go_wp2_with fail
   refine (num27_any _ _).mono ?_
   rintro e w5 ⟨rfl, rfl⟩
   obtain ⟨A0, o0, hA0⟩ : ∃ b o, A1 = some ⟨b, o, none⟩ := by
    obtain ⟨b, o, h9, _⟩ := HO4.o.2 (by omega)
    exact ⟨b, o, h9⟩
   subst hA0
   have hul : (wy.map tnW).length = n := by rw [List.length_map]; exact HNn.o.symm
   have HU := Lh hul
   have HP1 : Hid (∀ W, Below w5.heap.size w5 W -> Calls Tryz.prog 16 #[litV l, .slice (some ⟨A0, o0, none⟩) n k1] W (fun e w' => ∃ A m k, e = .returned (.tuple #[.slice A m k, .int .i64 0]) /\ 0 < m /\ Below W.heap.size W w')) := Lh fun W hW => by
    refine (pairs_ok l (some ⟨A0, o0, none⟩) n k1 (wy.map tnW) W ((HL4.o.keep hW).up hW.size) ((HO4.o.below hW).up hW.size) HOk.o.ok p2).mono ?_
    rintro e w' ⟨A, k, rfl, _, hb⟩
    refine ⟨A, _, k, rfl, ?_, hb⟩
    have h9 := HOk.o.one
    cases hr : rcsE (playE l (wy.map tnW) (wy.map tnW).length) (playE l (wy.map tnW) (wy.map tnW).length).length with
    | nil => rw [hr] at h9; cases h9
    | cons a t => simp
   have HP2 : Hid (∀ W, Below w5.heap.size w5 W -> Calls Tryz.prog 16 #[litV l, .slice (some ⟨A0, o0, none⟩) (n - 1 : Nat) k1] W (fun e w' => ∃ A k, e = .returned (.tuple #[.slice A 0 k, .int .i64 0]) /\ Below W.heap.size W w')) := Lh fun W hW => by
    have hsl : Sl W W.heap.size 3 (some ⟨A0, o0, none⟩) (n - 1) (tnVals ((wy.map tnW).take (n - 1))) := by
     refine ⟨by rw [tnVals_len, List.length_take, hul]; omega, fun _ => ?_⟩
     obtain ⟨b, o, h9, hb, hc⟩ := ((HO4.o.below hW).up hW.size).2 (by omega)
     refine ⟨b, o, h9, hb, fun i u hu => hc i u ?_⟩
     rw [<- List.take_append_drop (n - 1) (wy.map tnW)]
     unfold tnVals at hu ⊢
     rw [List.flatMap_append, List.getElem?_append_left (List.getElem?_eq_some_iff.1 hu).1]
     exact hu
    refine (pairs_ok l (some ⟨A0, o0, none⟩) (n - 1) k1 ((wy.map tnW).take (n - 1)) W ((HL4.o.keep hW).up hW.size) hsl HOk.o.ok (by omega)).mono ?_
    rintro e w' ⟨A, k, rfl, _, hb⟩
    have h9 := HOk.o.none
    rw [<- HNn.o] at h9
    exact ⟨A, k, by rw [h9]; rfl, hb⟩
   have q0 := HT4.o.cell (i := 0) rfl
   have q1 := HT4.o.cell (i := 1) rfl
   clear b1
   go_wp2_with fail
   refine (HP1.o w5 (Below.refl _ _)).mono ?_
   rintro e w6 ⟨A6, m6, k6, rfl, hm6, hb6⟩
   have HX6 := Lh hb6
   have HT6 := Lh (HT4.o.below hb6 HT4.o.lt)
   have HB6 := Lh (HB4.o.trans (hb6.mono HB4.o.size))
   clear hb6 q0 q1
   have HSo : Hid (∀ W, Below w6.heap.size w6 W -> W.cell? ⟨gl, 0, none⟩ = some (.slice l.wA l.wn l.wk) /\ W.cell? ⟨gl, 1, none⟩ = some (.slice l.tA l.tn l.tk)) := Lh fun W hW => ⟨(HT6.o.below hW HT6.o.lt).cell rfl, (HT6.o.below hW HT6.o.lt).cell rfl⟩
   obtain ⟨m, hm⟩ : ∃ m, n - 1 = m := ⟨_, rfl⟩
   rw [hm] at HP2
   have hwr : IntKind.i64.wrap ((n : Int) - 1) = (m : Int) := by
    have h9 : (n : Int) - 1 = (m : Int) := by omega
    rw [h9]
    simp [IntKind.wrap, IntKind.bits, IntKind.signed]
    omega
   have hmk : (m : Int) <= k1 := by omega
   clear hm
   go_upto_region 10 with fail
   refine wp_region_held_drew (S := fun W => W.cell? ⟨gl, 0, none⟩ = some (.slice l.wA l.wn l.wk) /\ W.cell? ⟨gl, 1, none⟩ = some (.slice l.tA l.tn l.tk)) (by kernel_rfl) (HSo.o _ ((Below.refl _ _).drew)) (fun hS => ?_)
   iterate 6 (refine tkN (v := ?_) ?_ ?_; rotate_left; · (intro W hSw; (try dsimp only at hSw); go_simp; try with_reducible rfl); try simp only [Act.put, List.setIfInBounds_toArray, List.set_cons_zero, List.set_cons_succ])
   refine rd 6 fun K1 hK1 => ?_
   go_simp
   go_at_call 16
   refine (HP2.o w6.drew (HX6.o.drew)).mono ?_
   rintro e w7 ⟨A7, k7, rfl, hb7⟩
   have hb67 : Below w6.heap.size w6 w7 := ((Below.refl w6.heap.size w6).drew).trans hb7
   refine hK1.out _ _ (HSo.o _ hb67) (fun hS2 => ?_)
   iterate 5 (refine tkN (v := ?_) ?_ ?_; rotate_left; · (intro W hSw; (try dsimp only at hSw); go_simp; try with_reducible rfl); try simp only [Act.put, List.setIfInBounds_toArray, List.set_cons_zero, List.set_cons_succ])
   refine wpAnyH_done (by kernel_rfl) ?_ _
   have HB7 := Lh (HB6.o.trans (hb67.mono HB6.o.size))
   have b4 : ((0 : Int) != 0) = false := rfl
   have b5 : ((m6 : Int) == 0) = false := by simp; omega
   have b6 : ¬ ((m6 : Int) = 0) := by omega
   clear hS hS2 hb67 hb7 HSo HP1 HP2 hwr hmk hK1
   go_wp2_with fail
   refine (num27_any _ _).mono ?_
   rintro e w8 ⟨rfl, rfl⟩
   go_wp2_with fail
   refine (num27_any _ _).mono ?_
   rintro e w9 ⟨rfl, rfl⟩
   go_wp2_with fail
   go_roundg (gk - 1)
   case measure => omega
   case rel => exact ⟨j + 1, by go_num, by omega, HB7⟩
  ·have e1 : ¬ ((j : Int) < 10) := by omega
   have HBr := Lh (HW1.o.trans (HB.o.mono HW1.o.size))
   clear HBn HB HN HCl
   go_wp2_with fail
   refine (ex4_free wr).mono ?_
   rintro e w2 ⟨rfl, hb2⟩
   have HB2 := Lh (HBr.o.trans (hb2.mono HBr.o.size))
   clear hb2 HBr
   go_wp2_with fail
   refine (num27_any _ _).mono ?_
   rintro e w3 ⟨rfl, rfl⟩
   go_wp2_with fail
   go_ret
   exact ⟨rfl, HB2.o⟩
end Go.Proofs.YtgjdgapfnfhklaaGreat
