/-
The law RacesDrf, walked. The arguments api.Litmus and []api
-/
import Derived.Test.YtgjdgapfnfhklaaGreatZ25
import Derived.Test.YtgjdgapfnfhklaaGreatZ3
import Derived.Test.YtgjdgapfnfhklaaGreatZ14
import Derived.Test.YtgjdgapfnfhklaaGreatZ16
import Derived.Test.YtgjdgapfnfhklaaGreatRfr
import Derived.Test.YtgjdgapfnfhklaaGreatZ21
import Derived.Test.YtgjdgapfnfhklaaGreatZ2
import Derived.Test.YtgjdgapfnfhklaaGreatZ9
import Derived.Test.YtgjdgapfnfhklaaGreatZ7
import Derived.Test.YtgjdgapfnfhklaaGreatZ24
set_option linter.unusedSimpArgs false
set_option linter.unusedVariables false
set_option maxRecDepth 100000
set_option maxHeartbeats 16000000
namespace Go.Proofs.YtgjdgapfnfhklaaGreat
open Go.RowKit
structure DrfC (l : Lit) (w : World) : Prop where
 aw : ∀ W, Calls Tryz.prog 4 #[] W (BoolR true W)
 cl : ∀ W, Calls Tryz.prog 5 #[] W (BoolR true W)
 ck : ∀ W, Below w.heap.size w W -> Calls Tryz.prog 6 #[litV l] W (BoolR (okLit l) W)
theorem drfC (l : Lit) (w : World) (h : LitAt w w.heap.size l) : DrfC l w := ⟨awake_any, classics_any, fun W hW => rlcheck_any l W ((h.keep hW).up hW.size)⟩
theorem law_drf_no (l : Lit) (w : World) (h : LitAt w w.heap.size l) (hok : okLit l = false) :
  Calls Tryz.prog 3 #[litV l] w (BoolR true w) := by
 have HB0 : Hid (Blk (w.alloc (.cells #[.slice l.wA l.wn l.wk, .slice l.tA l.tn l.tk] 25)) w.heap.size 25 (litL l)) := Lh (Blk.new _ _ _)
 have HW0 : Hid (Below w.heap.size w (w.alloc (.cells #[.slice l.wA l.wn l.wk, .slice l.tA l.tn l.tk] 25))) := Lh ((Below.refl _ _).alloc (Nat.le_refl _) _)
 have HC := Lh (drfC l w h)
 have HOk := Lh hok
 clear h hok
 go_enter Tryz.func3, Tryz.ntmps3
 go_upto_region 1 with fail
 generalize w.alloc (.cells #[.slice l.wA l.wn l.wk, .slice l.tA l.tn l.tk] 25) = w0 at HB0 HW0 ⊢
 go_wp2_with fail
 refine (HC.o.aw w0).mono ?_
 rintro e w1 ⟨rfl, hb1⟩
 have HW1 := Lh (HW0.o.trans (hb1.mono HW0.o.size))
 have HB1 := Lh (HB0.o.below hb1 HB0.o.lt)
 clear hb1 HB0 HW0
 go_wp2_with fail
 refine (HC.o.cl w1).mono ?_
 rintro e w2 ⟨rfl, hb2⟩
 have HW2 := Lh (HW1.o.trans (hb2.mono HW1.o.size))
 have HB2 := Lh (HB1.o.below hb2 HB1.o.lt)
 clear hb2 HB1 HW1
 have q0 := HB2.o.cell (i := 0) rfl
 have q1 := HB2.o.cell (i := 1) rfl
 go_wp2_with fail
 refine (HC.o.ck w2 HW2.o).mono ?_
 rintro e w3 ⟨rfl, hb3⟩
 have HW3 := Lh (HW2.o.trans (hb3.mono HW2.o.size))
 rw [HOk.o]
 clear hb3 q0 q1
 go_wp2_with fail
 go_ret
 exact ⟨rfl, HW3.o⟩
theorem free_no {l : Lit} {a : Ans} {w w' : World} {e : Ending} (ha : a ≠ .free) (h : FreP l a w e w') : ∃ v f, e = .returned (.tuple #[.bool false, v, .int .i64 f]) /\ Below w.heap.size w w' := by
 cases a with
 | free => exact absurd rfl ha
 | race wy => obtain ⟨A, k, rfl, _, hb⟩ := h; exact ⟨_, _, rfl, hb⟩
 | many => obtain ⟨rfl, hb⟩ := h; exact ⟨_, _, rfl, hb⟩
theorem rfree_no {a : Ans} {w w' : World} {e : Ending} (ha : a ≠ .free) (h : RfrP a w e w') : ∃ v f, e = .returned (.tuple #[.bool false, v, .bool f]) /\ Below w.heap.size w w' := by
 cases a with
 | free => exact absurd rfl ha
 | race wy => obtain ⟨A, k, rfl, _, hb⟩ := h; exact ⟨_, _, rfl, hb⟩
 | many => obtain ⟨rfl, hb⟩ := h; exact ⟨_, _, rfl, hb⟩
def OrdW (L : List (List Int × List Int)) : Prop := L.Pairwise (fun x y => ¬ ordK y x < 0)
theorem fin_eq {fs gs : List FE} (h : fs.map FE.k = gs.map FE.k) {i : Nat} {x : FE} (hx : fs[i]? = some x) : ∃ y, gs[i]? = some y /\ x.k = y.k := by
 have h1 : (gs.map FE.k)[i]? = some x.k := by rw [<- h, List.getElem?_map, hx]; rfl
 rw [List.getElem?_map] at h1
 cases hy : gs[i]? with
 | none => rw [hy] at h1; cases h1
 | some y =>
  rw [hy] at h1
  injection h1 with h1
  exact ⟨y, rfl, h1.symm⟩
theorem law_drf_ok (l : Lit) (w : World) (h : LitAt w w.heap.size l) (hok : okLit l = true) (hwf : WfL l) :
  Calls Tryz.prog 3 #[litV l] w (BoolR true w) := by
 obtain ⟨n1, n2, n3, n4⟩ := okLit_num hok
 have HB0 : Hid (Blk (w.alloc (.cells #[.slice l.wA l.wn l.wk, .slice l.tA l.tn l.tk] 25)) w.heap.size 25 (litL l)) := Lh (Blk.new _ _ _)
 have HW0 : Hid (Below w.heap.size w (w.alloc (.cells #[.slice l.wA l.wn l.wk, .slice l.tA l.tn l.tk] 25))) := Lh ((Below.refl _ _).alloc (Nat.le_refl _) _)
 have HC := Lh (drfC l w h)
 obtain ⟨a, ha⟩ : ∃ a, freeN l = a := ⟨_, rfl⟩
 have HPf : Hid (∀ W, Below w.heap.size w W -> Calls Tryz.prog 8 #[litV l] W (FreP l a W)) := Lh fun W hW => by
  rw [<- ha]
  exact pfree_any l W ((h.keep hW).up hW.size) hok hwf
 have HRf : Hid (∀ W, Below w.heap.size w W -> Calls Tryz.prog 7 #[litV l] W (RfrP a W)) := Lh fun W hW => by
  rw [<- ha]
  exact rfree_any l W ((h.keep hW).up hW.size) hok
 have HFi : Hid (∀ o : Nat, o = 1 ∨ o = 2 ∨ o = 3 -> ∀ W, Below w.heap.size w W -> Calls Tryz.prog 9 #[litV l, .int .i64 o] W (FinR l W (walkN l o))) := Lh fun o ho W hW =>
  finals_q l o W ho ((h.keep hW).up hW.size) hok hwf (fun W' hl => (begin_ok l W' hl hok).mono fun _ _ h9 => h9)
 have HEq : Hid (a = .free -> ∀ o : Nat, o = 2 ∨ o = 3 -> ∀ (ns1 ns2 : List BS) (fs gs : List FE), walkN l 1 = some ns1 -> walkN l o = some ns2 -> (fs.map FE.k).Perm ((ns1.filter (finB l)).map finK) -> OrdW (fs.map FE.k) -> (gs.map FE.k).Perm ((ns2.filter (finB l)).map finK) -> OrdW (gs.map FE.k) -> gs.map FE.k = fs.map FE.k) := Lh fun hf o ho ns1 ns2 fs gs h1 h2 p1 s1 p2 s2 =>
  fins_same hok h.wlen (ha.trans hf) ho (fins_sorted hok h.wlen h2 p2 s2) (fins_sorted hok h.wlen h1 p1 s1)
 have HOk := Lh hok
 clear h hok ha hwf
 go_enter Tryz.func3, Tryz.ntmps3
 go_upto_region 1 with fail
 generalize w.alloc (.cells #[.slice l.wA l.wn l.wk, .slice l.tA l.tn l.tk] 25) = w0 at HB0 HW0 ⊢
 go_wp2_with fail
 refine (HC.o.aw w0).mono ?_
 rintro e w1 ⟨rfl, hb1⟩
 have HW1 := Lh (HW0.o.trans (hb1.mono HW0.o.size))
 have HB1 := Lh (HB0.o.below hb1 HB0.o.lt)
 clear hb1 HB0 HW0
 go_wp2_with fail
 refine (HC.o.cl w1).mono ?_
 rintro e w2 ⟨rfl, hb2⟩
 have HW2 := Lh (HW1.o.trans (hb2.mono HW1.o.size))
 have HB2 := Lh (HB1.o.below hb2 HB1.o.lt)
 clear hb2 HB1 HW1
 have q0 := HB2.o.cell (i := 0) rfl
 have q1 := HB2.o.cell (i := 1) rfl
 go_wp2_with fail
 refine (HC.o.ck w2 HW2.o).mono ?_
 rintro e w3 ⟨rfl, hb3⟩
 have HW3 := Lh (HW2.o.trans (hb3.mono HW2.o.size))
 have HB3 := Lh (HB2.o.below hb3 HB2.o.lt)
 rw [HOk.o]
 clear hb3 q0 q1 HB2 HW2 HC
 have q0 := HB3.o.cell (i := 0) rfl
 have q1 := HB3.o.cell (i := 1) rfl
 go_wp2_with fail
 refine (HRf.o w3 HW3.o).mono ?_
 intro e w4 hr4
 by_cases hfa : a = .free
 ·subst hfa
  obtain ⟨rfl, hb4⟩ := hr4
  have HW4 := Lh (HW3.o.trans (hb4.mono HW3.o.size))
  have HB4 := Lh (HB3.o.below hb4 HB3.o.lt)
  clear hb4 q0 q1 HB3 HW3 HRf
  have q0 := HB4.o.cell (i := 0) rfl
  have q1 := HB4.o.cell (i := 1) rfl
  go_wp2_with fail
  refine (HPf.o w4 HW4.o).mono ?_
  rintro e w5 ⟨rfl, hb5⟩
  have HW5 := Lh (HW4.o.trans (hb5.mono HW4.o.size))
  have HB5 := Lh (HB4.o.below hb5 HB4.o.lt)
  clear hb5 q0 q1 HB4 HW4 HPf
  have q0 := HB5.o.cell (i := 0) rfl
  have q1 := HB5.o.cell (i := 1) rfl
  go_wp2_with fail
  refine (HFi.o 1 (Or.inl rfl) w5 HW5.o).mono ?_
  intro e w6 hf6
  obtain ⟨r1, hr1⟩ : ∃ r, r = walkN l 1 := ⟨_, rfl⟩
  rw [<- hr1] at hf6
  have HR1 := Lh hr1
  clear hr1 q0 q1
  cases r1 with
  | none =>
   obtain ⟨rfl, hb6⟩ := hf6
   have HW6 := Lh (HW5.o.trans (hb6.mono HW5.o.size))
   clear hb6
   go_wp2_with fail
   refine (num27_any _ _).mono ?_
   rintro e w7 ⟨rfl, rfl⟩
   go_wp2_with fail
   refine (num27_any _ _).mono ?_
   rintro e w8 ⟨rfl, rfl⟩
   go_wp2_with fail
   go_ret
   exact ⟨rfl, HW6.o⟩
  | some ns1 =>
   obtain ⟨fs, A6, k6, rfl, hb6, hs6, hf6, hp6, ho6⟩ := hf6
   have HW6 := Lh (HW5.o.trans (hb6.mono HW5.o.size))
   have HB6 := Lh (HB5.o.below hb6 HB5.o.lt)
   have HS6 := Lh hs6
   have HF6 := Lh hf6
   have HE := Lh fun (o : Nat) (ho : o = 2 ∨ o = 3) (ns2 : List BS) (gs : List FE) (h2 : walkN l o = some ns2) p2 s2 => HEq.o trivial o ho ns1 ns2 fs gs HR1.o.symm h2 hp6 ho6 p2 s2
   have hm : fs.length <= 30000 := by
    have h9 := hp6.length_eq
    rw [List.length_map, List.length_map] at h9
    rw [h9]
    exact Nat.le_trans (List.length_filter_le _ _) (walkN_le HR1.o.symm)
   obtain ⟨n, hn⟩ : ∃ n, n = fs.length := ⟨_, rfl⟩
   rw [<- hn] at hm ⊢
   have HNf := Lh hn
   clear hb6 hs6 hf6 hp6 ho6 HB5 HW5 HEq HR1 hn
   go_wp2_with fail
   refine (num27_any _ _).mono ?_
   rintro e w7 ⟨rfl, rfl⟩
   go_wp2_with fail
   go_loopg [11] 2 (fun gk i wr => ∃ o : Nat, i = .int .i64 o /\ o + gk = 4 /\ 2 <= o /\ Hid (Below w7.heap.size w7 wr))
   case atStart => exact ⟨2, rfl, rfl, Nat.le_refl _, Lh (Below.refl _ _)⟩
   case round =>
    obtain ⟨o, rfl, hog, ho2, HB⟩ := hrel
    by_cases hlt : o <= 3
    ·have e1 : (o : Int) <= 3 := by omega
     have ho : o = 2 ∨ o = 3 := by omega
     have HWr := Lh (HW6.o.trans (HB.o.mono HW6.o.size))
     have HBr := Lh (HB6.o.below HB.o HB6.o.lt)
     have q0 := HBr.o.cell (i := 0) rfl
     have q1 := HBr.o.cell (i := 1) rfl
     have HFo := Lh (HFi.o o (Or.inr ho) wr HWr.o)
     obtain ⟨r2, hr2⟩ : ∃ r, r = walkN l o := ⟨_, rfl⟩
     rw [<- hr2] at HFo
     have HR2 := Lh hr2
     have HOo := Lh ho
     clear hr2 ho
     go_wp2_with fail
     refine HFo.o.mono ?_
     intro e w8 hf8
     clear HFo q0 q1
     cases r2 with
     | none =>
      obtain ⟨rfl, hb8⟩ := hf8
      have HB8 := Lh (HB.o.trans (hb8.mono HB.o.size))
      clear hb8
      go_wp2_with fail
      refine (num27_any _ _).mono ?_
      rintro e w9 ⟨rfl, rfl⟩
      go_wp2_with fail
      go_roundg (gk - 1)
      case measure => omega
      case rel => exact ⟨o + 1, by go_num, by omega, by omega, HB8⟩
     | some ns2 =>
      obtain ⟨gs, A8, k8, rfl, hb8, hs8, hf8, hp8, ho8⟩ := hf8
      have hke := HE.o o HOo.o ns2 gs HR2.o.symm hp8 ho8
      have hlen : gs.length = fs.length := by
       have h9 := congrArg List.length hke
       rwa [List.length_map, List.length_map] at h9
      have HB8 := Lh (HB.o.trans (hb8.mono HB.o.size))
      have HS8 := Lh hs8
      have HF8 := Lh hf8
      have HKe := Lh hke
      have hn : n = fs.length := HNf.o
      have HNg : Hid (n = gs.length) := Lh (by omega)
      have HS6' : Hid (Sl w8 w8.heap.size 2 A6 n (fs.flatMap (FE.cs l.tn l.wn))) := Lh (by rw [hn]; exact (HS6.o.below HB8.o).up HB8.o.size)
      have HS8' : Hid (Sl w8 w8.heap.size 2 A8 n (gs.flatMap (FE.cs l.tn l.wn))) := Lh (by rw [HNg.o]; exact hs8)
      have HF6' : Hid (∀ x ∈ fs, FeAt w8 l.tn l.wn x) := Lh fun x hx => (HF6.o x hx).on HB8.o
      rw [hlen, <- hn]
      clear hb8 hs8 hf8 hp8 ho8 hke hlen hn HS8
      have d1 : ((n : Int) != (n : Int)) = false := by simp
      go_wp2_with fail
      refine (num27_any _ _).mono ?_
      rintro e w9 ⟨rfl, rfl⟩
      go_wp2_with fail
      refine (num27_any _ _).mono ?_
      rintro e w10 ⟨rfl, rfl⟩
      go_wp2_with fail
      obtain ⟨ga, rfl⟩ : ∃ ga : Nat, ga = gk := ⟨_, rfl⟩
      go_loopg [14] n (fun gk i wr => ∃ j : Nat, i = .int .i64 j /\ j + gk = n /\ Hid (Below w10.heap.size w10 wr))
      case atStart => exact ⟨0, rfl, by omega, Lh (Below.refl _ _)⟩
      case round =>
       obtain ⟨j, rfl, hjn, HBj⟩ := hrel
       by_cases hltj : j < n
       ·have e2 : (j : Int) < n := by omega
        have e3 : (0 : Int) <= j := by omega
        obtain ⟨x, hx⟩ := at_lt (show j < gs.length by rw [<- HNg.o]; exact hltj)
        obtain ⟨y, hy, hxy⟩ := fin_eq HKe.o hx
        obtain ⟨b, o', rfl, _, hc⟩ := HS8'.o.2 (by omega)
        obtain ⟨b', o'', rfl, _, hc'⟩ := HS6'.o.2 (by omega)
        have HSo : Hid (∀ W, Below w10.heap.size w10 W -> W.cell? ⟨b, o' + j * 2, none⟩ = some (.slice (some ⟨x.gw, 0, none⟩) l.wn x.kw) /\ W.cell? ⟨b, o' + j * 2 + 1, none⟩ = some (.slice (some ⟨x.gr, 0, none⟩) l.tn x.kr) /\ W.cell? ⟨b', o'' + j * 2, none⟩ = some (.slice (some ⟨y.gw, 0, none⟩) l.wn y.kw) /\ W.cell? ⟨b', o'' + j * 2 + 1, none⟩ = some (.slice (some ⟨y.gr, 0, none⟩) l.tn y.kr)) := Lh fun W hW => by
         obtain ⟨_, _, r1, _, r3⟩ := (HS8'.o.below hW).2 (by omega)
         obtain ⟨_, _, r2, _, r4⟩ := (HS6'.o.below hW).2 (by omega)
         injection r1 with r1
         injection r1 with r1 r1'
         injection r2 with r2
         injection r2 with r2 r2'
         subst r1 r1' r2 r2'
         exact ⟨r3 (j * 2) _ (feVals_get hx 0 (by omega)), (Nat.add_assoc _ _ _).symm ▸ r3 (j * 2 + 1) _ (feVals_get hx 1 (by omega)), r4 (j * 2) _ (feVals_get hy 0 (by omega)), (Nat.add_assoc _ _ _).symm ▸ r4 (j * 2 + 1) _ (feVals_get hy 1 (by omega))⟩
        have HSa : Hid (∀ W, Below w10.heap.size w10 W -> Calls Tryz.prog 11 #[.agg #[.slice (some ⟨x.gw, 0, none⟩) l.wn x.kw, .slice (some ⟨x.gr, 0, none⟩) l.tn x.kr], .agg #[.slice (some ⟨y.gw, 0, none⟩) l.wn y.kw, .slice (some ⟨y.gr, 0, none⟩) l.tn y.kr]] W (BoolR true W)) := Lh fun W hW =>
         same19_any l.tn l.wn x y W ((HF8.o x (List.mem_of_getElem? hx)).on hW) ((HF6'.o y (List.mem_of_getElem? hy)).on hW) hxy n2 n4
        clear hc hc' hx hy hxy
        go_upto_region 24 with fail
        refine wp_region_held_drew (S := fun W => W.cell? ⟨b, o' + j * 2, none⟩ = some (.slice (some ⟨x.gw, 0, none⟩) l.wn x.kw) /\ W.cell? ⟨b, o' + j * 2 + 1, none⟩ = some (.slice (some ⟨x.gr, 0, none⟩) l.tn x.kr) /\ W.cell? ⟨b', o'' + j * 2, none⟩ = some (.slice (some ⟨y.gw, 0, none⟩) l.wn y.kw) /\ W.cell? ⟨b', o'' + j * 2 + 1, none⟩ = some (.slice (some ⟨y.gr, 0, none⟩) l.tn y.kr)) (by kernel_rfl) (HSo.o _ HBj.o.drew) (fun hS => ?_)
        iterate 8 (refine tkN (v := ?_) ?_ ?_; rotate_left; · (intro W hSw; (try dsimp only at hSw); go_simp; try with_reducible rfl); try simp only [Act.put, List.setIfInBounds_toArray, List.set_cons_zero, List.set_cons_succ])
        refine rd 8 fun K1 hK1 => ?_
        go_simp
        go_at_call 11
        refine (HSa.o _ HBj.o.drew).mono ?_
        rintro e w11 ⟨rfl, hb11⟩
        have hB11 : Below w10.heap.size w10 w11 := HBj.o.drew.trans (hb11.mono HBj.o.drew.size)
        refine hK1.out _ _ (HSo.o _ hB11) (fun hS2 => ?_)
        refine tkN (v := ?_) ?_ ?_
        rotate_left
        ·(intro W hSw; (try dsimp only at hSw); go_simp; try with_reducible rfl)
        try simp only [Act.put, List.setIfInBounds_toArray, List.set_cons_zero, List.set_cons_succ]
        refine wpAnyH_done (by kernel_rfl) ?_ _
        have HB11 := Lh hB11
        clear hS hS2 hB11 hb11 HSo HSa hK1
        go_wp2_with fail
        go_roundg (gk - 1)
        case measure => omega
        case rel => exact ⟨j + 1, by go_num, by omega, HB11⟩
       ·have e2 : ¬ ((j : Int) < n) := by omega
        go_wp2_with fail
        go_roundg (ga - 1)
        case measure => omega
        case rel => exact ⟨o + 1, by go_num, by omega, by omega, Lh (HB8.o.trans (HBj.o.mono HB8.o.size))⟩
    ·have e1 : ¬ ((o : Int) <= 3) := by omega
     go_wp2_with fail
     go_ret
     exact ⟨rfl, HW6.o.trans (HB.o.mono HW6.o.size)⟩
 ·obtain ⟨v4, f4, rfl, hb4⟩ := rfree_no hfa hr4
  have HW4 := Lh (HW3.o.trans (hb4.mono HW3.o.size))
  have HB4 := Lh (HB3.o.below hb4 HB3.o.lt)
  clear hb4 q0 q1 HB3 HW3 HRf hr4
  have q0 := HB4.o.cell (i := 0) rfl
  have q1 := HB4.o.cell (i := 1) rfl
  go_wp2_with fail
  refine (HPf.o w4 HW4.o).mono ?_
  intro e w5 hp5
  obtain ⟨v5, f5, rfl, hb5⟩ := free_no hfa hp5
  have HW5 := Lh (HW4.o.trans (hb5.mono HW4.o.size))
  clear hb5 q0 q1 HB4 HW4 HPf hp5
  go_wp2_with fail
  go_ret
  exact ⟨rfl, HW5.o⟩
end Go.Proofs.YtgjdgapfnfhklaaGreat
namespace Go.Proofs.YtgjdgapfnfhklaaGreat
open Go.Joins Go.ChangeShapes Go.WideShapes Go.RowKit Go.Deep
section
variable {H : Type} {enc : TypeId × Value -> H} {w : World} {base : Nat} {held : Bool}
theorem wf_i64b {z : Int} (h : (Lit.int .i64 z).wf = true) : -9223372036854775808 <= z /\ z <= 9223372036854775807 := by
 have h2 : (decide (IntKind.i64.min <= z) && decide (z <= IntKind.i64.max)) = true := h
 rw [show IntKind.i64.min = -9223372036854775808 from by decide, show IntKind.i64.max = 9223372036854775807 from by decide, Bool.and_eq_true, decide_eq_true_eq, decide_eq_true_eq] at h2
 exact h2
instance : Inhabited Ins := ⟨⟨0, 0, 0, 0, 0, 0, 0⟩⟩
instance : Inhabited Tn := ⟨⟨0, false, 0⟩⟩
def InOk (i : Ins) : Prop := SrcOk i /\ (Lit.int .i64 i.value).wf = true
theorem open_code {fuel : Nat} {v : Value} {x : DataW H × List MemPlace} (h : DataW.trod enc Tryz.prog w base (fun _ => true) held fuel 69 [v] = some x) :
  ∃ (A : Option Addr) (n c : Nat) (is : List Ins), v = .slice A n c /\ Sl w w.heap.size 7 A n (insVals is) /\ n <= c /\ c <= maxLen /\ ∀ i ∈ is, InOk i := by
 rcases open_slice_fields Tryz.underlying69 Tryz.underlying68 (by kernel_rfl) (by kernel_rfl) h with ⟨hcs, hx⟩ | ⟨a, len, cap, m, D, Pl, hcs, hb, hl, hm, hmm, hx, hi⟩
 ·have hv : v = .slice none 0 0 := by simpa using hcs
  exact ⟨none, 0, 0, [], hv, Sl.nil, Nat.le_refl _, Nat.zero_le _, by simp⟩
 ·have hv : v = .slice (some a) len cap := by simpa using hcs
  simp only [if_true] at hmm
  have hmm' := hmm.symm
  subst hmm'
  have each : ∀ i, i < cap -> ∃ y : Ins, InOk y /\ ∀ j, j < 7 -> w.cell? (a.add (i * 7 + j)) = (insL y)[j]? := by
   intro i hic
   obtain ⟨ys, n, _, _, _, hf⟩ := hi i hic
   obtain ⟨v0, y0, c0, _, t0⟩ := hf 0 _ rfl
   obtain ⟨v1, y1, c1, _, t1⟩ := hf 1 _ rfl
   obtain ⟨v2, y2, c2, _, t2⟩ := hf 2 _ rfl
   obtain ⟨v3, y3, c3, _, t3⟩ := hf 3 _ rfl
   obtain ⟨v4, y4, c4, _, t4⟩ := hf 4 _ rfl
   obtain ⟨v5, y5, c5, _, t5⟩ := hf 5 _ rfl
   obtain ⟨v6, y6, c6, _, t6⟩ := hf 6 _ rfl
   obtain ⟨z0, e0, _⟩ := DataW.trod_int Tryz.underlying66 t0
   obtain ⟨z1, e1, _⟩ := DataW.trod_int Tryz.underlying3 t1
   obtain ⟨z2, e2, _⟩ := DataW.trod_int Tryz.underlying3 t2
   obtain ⟨z3, e3, _, wf3⟩ := DataW.trod_int Tryz.underlying3 t3
   obtain ⟨z4, e4, _, wf4⟩ := DataW.trod_int Tryz.underlying3 t4
   obtain ⟨z5, e5, _⟩ := DataW.trod_int Tryz.underlying3 t5
   obtain ⟨z6, e6, _⟩ := DataW.trod_int Tryz.underlying3 t6
   have e0 : v0 = .int .i64 z0 := by simpa using e0
   have e1 : v1 = .int .i64 z1 := by simpa using e1
   have e2 : v2 = .int .i64 z2 := by simpa using e2
   have e3 : v3 = .int .i64 z3 := by simpa using e3
   have e4 : v4 = .int .i64 z4 := by simpa using e4
   have e5 : v5 = .int .i64 z5 := by simpa using e5
   have e6 : v6 = .int .i64 z6 := by simpa using e6
   subst e0; subst e1; subst e2; subst e3; subst e4; subst e5; subst e6
   refine ⟨⟨z0, z1, z2, z3, z4, z5, z6⟩, ⟨wf_i64b wf4, wf3⟩, fun j hj => ?_⟩
   match j, hj with
   | 0, _ => exact c0
   | 1, _ => exact c1
   | 2, _ => exact c2
   | 3, _ => exact c3
   | 4, _ => exact c4
   | 5, _ => exact c5
   | 6, _ => exact c6
  obtain ⟨y, hy⟩ := choose_lt each
  refine ⟨some a, len, cap, (List.range len).map y, hv, ?_, hl, hm, ?_⟩
  ·refine sl_of (by rw [insVals_len]; simp) (by omega) (fun j hj => ?_)
   have hk : j / 7 < len := by omega
   have hd : j = j / 7 * 7 + j % 7 := by omega
   have hg := insVals_get (l := (List.range len).map y) (j := j / 7) (x := y (j / 7)) (by simp [hk]) (j % 7) (by omega)
   rw [hd, hg]
   exact (hy (j / 7) (by omega)).2 (j % 7) (by omega)
  ·intro q hq
   obtain ⟨i, hir, rfl⟩ := List.mem_map.1 hq
   have hlt : i < len := List.mem_range.1 hir
   exact (hy i (by omega)).1
theorem open_threads {fuel : Nat} {v : Value} {x : DataW H × List MemPlace} (h : DataW.trod enc Tryz.prog w base (fun _ => true) held fuel 23 [v] = some x) :
  ∃ (A : Option Addr) (n c : Nat) (th : List (Hd × List Ins)), v = .slice A n c /\ Sl w w.heap.size 1 A n (th.map fun x => hdV x.1) /\ n <= c /\ c <= maxLen /\
   ∀ x ∈ th, Sl w w.heap.size 7 x.1.1 x.1.2.1 (insVals x.2) /\ (x.1.2.1 <= x.1.2.2 /\ x.1.2.2 <= maxLen) /\ ∀ i ∈ x.2, InOk i := by
 rcases open_slice1 Tryz.underlying23 (by kernel_rfl) h with ⟨hcs, hx⟩ | ⟨a, len, cap, m, n, V, D, Pl, hcs, hb, hl, hm, hmm, hx, hi⟩
 ·have hv : v = .slice none 0 0 := by simpa using hcs
  exact ⟨none, 0, 0, [], hv, Sl.nil, Nat.le_refl _, Nat.zero_le _, by simp⟩
 ·have hv : v = .slice (some a) len cap := by simpa using hcs
  simp only [if_true] at hmm
  have hmm' := hmm.symm
  subst hmm'
  have each : ∀ i, i < cap -> ∃ y : Hd × List Ins, V i = hdV y.1 /\ Sl w w.heap.size 7 y.1.1 y.1.2.1 (insVals y.2) /\ (y.1.2.1 <= y.1.2.2 /\ y.1.2.2 <= maxLen) /\ ∀ i ∈ y.2, InOk i := by
   intro i hic
   obtain ⟨A, n', c', is, e0, e1, e2, e3, e4⟩ := open_code (hi i hic).2
   exact ⟨((A, n', c'), is), e0, e1, ⟨e2, e3⟩, e4⟩
  obtain ⟨y, hy⟩ := choose_lt each
  refine ⟨some a, len, cap, (List.range len).map y, hv, ?_, hl, hm, ?_⟩
  ·refine sl_of (by simp) (by omega) (fun j hj => ?_)
   rw [(hi j (by omega)).1, (hy j (by omega)).1]
   simp [List.getElem?_range (show j < len by omega)]
  ·intro q hq
   obtain ⟨i, hir, rfl⟩ := List.mem_map.1 hq
   have hlt : i < len := List.mem_range.1 hir
   exact (hy i (by omega)).2
theorem open_lit2 {r : Reach} {b0 : Nat} {v : Value} {d : DataW H} {p : List MemPlace} (hv : Value.okWide Tryz.prog w r b0 25 v) (h : DataW.Trod enc Tryz.prog w base (fun _ => true) held 25 v d p) :
  ∃ l : Lit, v = litV l /\ LitAt w w.heap.size l /\ (∀ z ∈ l.ws, (Lit.int .i64 z).wf = true) /\ ∀ y ∈ l.th, ∀ i ∈ y.2, (Lit.int .i64 i.value).wf = true := by
 obtain ⟨v0, v1, y0, y1, nn, rfl, rfl, rfl, t0, t1⟩ := open_agg2 Tryz.underlying25 (by kernel_rfl) (by kernel_rfl) hv h
 obtain ⟨A, n, k, zs, rfl, a1, a2, a3, a4, a5, a6⟩ := open_nums Tryz.underlying22 Tryz.underlying3 (by kernel_rfl) t0
 obtain ⟨T, m, c, th, rfl, b1, b2, b3, b4⟩ := open_threads t1
 exact ⟨⟨A, n, k, zs, T, m, c, th⟩, rfl, ⟨a1, ⟨a3, a4⟩, b1, ⟨b2, b3⟩, fun x hx => ⟨(b4 x hx).1, (b4 x hx).2.1, fun i hi => ((b4 x hx).2.2 i hi).1⟩⟩, a5, fun y hy i hi => ((b4 y hy).2.2 i hi).2⟩
end
end Go.Proofs.YtgjdgapfnfhklaaGreat
namespace Go.Proofs.YtgjdgapfnfhklaaGreat
open Go.ChangeShapes Go.WideShapes Go.ChangeAt Go.RowKit
theorem law_drf (l : Lit) (w : World) (h : LitAt w w.heap.size l) (hwf : WfL l) : Calls Tryz.prog 3 #[litV l] w (BoolR true w) := by
 cases hok : okLit l with
 | false => exact law_drf_no l w h hok
 | true => exact law_drf_ok l w h hok hwf
theorem racesDrf_lifted (os : Os) (started : os.Started) (H : Type) (enc : TypeId × Value -> H) :
  ReturnsInHanded {} Tryz.checked os 3 .any (Rows.racesDrfSpec.pre6 enc Tryz.prog Tryz.f3 Rows.racesDrfRow.domain false) (Rows.racesDrfSpec.post enc Tryz.prog Tryz.f3 false true false false) := by
 refine returnsInHanded_of_change_sized (C := Tryz.checked) own started (by kernel_rfl) Tryz.func3
  (ChangeSpec.witness6 (enc := enc) (C := Tryz.checked) false ⟨#[], #[.agg #[.slice none 0 0, .slice none 0 0]], []⟩ 8 (by kernel_rfl) (by kernel_rfl) (by kernel_rfl) (by kernel_rfl)) ?_
 intro W base args ds gs before hval0 hW0 hcnd hsz _
 have hW : DataW.Whole enc Tryz.prog Tryz.f3.params.toList Rows.racesDrfSpec.vars false W args.toList ds gs before := hW0
 have hval : ∀ (j : Nat) t v, Tryz.f3.params[j]? = some t -> args[j]? = some v -> Value.okWide Tryz.prog W .any base t v := hval0
 clear hval0 hW0
 have hP : ∀ {W'}, Below W.heap.size W W' -> ∃ v, Ending.returned (.bool true) = .returned v /\ Rows.racesDrfSpec.post enc Tryz.prog Tryz.f3 false true false false W args v W' := by
  intro W' hb
  refine ⟨_, rfl, law_post (t := 4) rfl rfl Tryz.underlying4 (by kernel_rfl) hW ?_ hb⟩
  obtain ⟨p, q, hA, hV, _⟩ := hW
  obtain ⟨rfl, rfl⟩ := trodVars_none hV
  have hA' : DataW.TrodAll enc Tryz.prog W 0 (fun _ => true) true [25] args.toList ds p := hA
  obtain ⟨v0, d0, _, rfl, _⟩ := trodAll_one hA'
  rfl
 obtain ⟨p, q, hA0, hV, rfl, hfz, hnd⟩ := hW
 have hA : DataW.TrodAll enc Tryz.prog W 0 (fun _ => true) true [25] args.toList ds p := hA0
 have hpar : Tryz.f3.params = #[25] := Tryz.params3
 rw [hpar] at hval
 clear hA0
 obtain ⟨v0, d0, rfl, rfl, h0⟩ := trodAll_one hA
 obtain ⟨l, rfl, hL, hw, hv⟩ := open_lit2 (hval 0 25 v0 rfl rfl) h0
 exact (law_drf l W hL ⟨hw, hv⟩).mono fun e W' ⟨he, hb⟩ => by
  subst he
  exact hP hb
theorem racesDrf_holds : Rows.RacesDrfSaid :=
 OpenClaim.holds_of_wide 3 Tryz.f3 rfl rfl rfl rfl rfl rfl rfl ⟨rfl, rfl, rfl, rfl, rfl⟩ rfl rfl rfl rfl rfl (by kernel_rfl) Tryz.func3 (by kernel_rfl)
  (of_decide_eq_true (by kernel_rfl)) (by unfold Func.isWrapper; first | (rw [if_pos (by decide +kernel)]; kernel_rfl) | (rw [if_neg (by decide +kernel)]; exact ⟨rfl, rfl⟩))
  (fun os started H enc _ => racesDrf_lifted os started H enc)
#print axioms racesDrf_holds
end Go.Proofs.YtgjdgapfnfhklaaGreat
