/-
reclaimref19.protect.
-/
import Derived.Test.YtgjdgapfnfhklaaGreatCla
import Derived.Test.YtgjdgapfnfhklaaGreatZ1
import Derived.Test.YtgjdgapfnfhklaaGreatZ8
set_option linter.unusedSimpArgs false
set_option linter.unusedVariables false
set_option maxRecDepth 100000
set_option maxHeartbeats 8000000
namespace Go.Proofs.YtgjdgapfnfhklaaGreat
open Go.RowKit
def PrtR (k : Nat) (w : World) (e : Ending) (w' : World) : Prop := ∃ l : Lit, e = .returned (litV l) /\ l.ws = clsW k /\ l.th.map (·.2) = clsT k /\ Below w.heap.size w w' /\ ∀ W' : World, (∀ q, w.heap.size <= q -> q < w'.heap.size -> W'.heap[q]? = w'.heap[q]?) -> w'.heap.size <= W'.heap.size -> LitAt W' W'.heap.size l
theorem own_hk {w W' : World} {C e s n : Nat} {v : Value} {xs : List Value} (h : w.ownsRow C e s v n xs) (hk : ∀ q, C <= q -> q < w.heap.size -> W'.heap[q]? = w.heap[q]?) : W'.ownsRow C e s v n xs :=
 ⟨h.1, h.2.imp id fun ⟨g, cap, cur, e1, h1, h2, h3⟩ => ⟨g, cap, cur, e1, h1, (hk g h1 (Array.getElem?_eq_some_iff.1 h2).1).trans h2, h3⟩⟩
theorem info_ins : (Tryz.prog.info? 68).map (fun i => (i.zero, i.size, i.bytes)) = some (some (.agg #[.int .i64 0, .int .i64 0, .int .i64 0, .int .i64 0, .int .i64 0, .int .i64 0, .int .i64 0]), 7, 56) := by kernel_rfl
theorem insVals_one (c : List Ins) : ∀ u ∈ insVals c, u.oneCell' = true := by
 intro u hu
 obtain ⟨x, _, hx⟩ := List.mem_flatMap.1 hu
 simp at hx
 rcases hx with rfl | rfl | rfl | rfl | rfl | rfl | rfl <;> rfl
theorem insVals_app (a b : List Ins) : insVals a ++ insVals b = insVals (a ++ b) := List.flatMap_append.symm
theorem sl_codes {w : World} {C n k : Nat} {A : Option Addr} {c : List Ins} (h : w.ownsRow C 68 7 (.slice A n k) n (insVals c)) (hs : ∀ i ∈ c, SrcOk i) : Sl w w.heap.size 7 A n (insVals c) /\ (n <= k /\ k <= maxLen) /\ ∀ i ∈ c, SrcOk i := by
 refine ⟨Sl.of_own h, ?_, hs⟩
 obtain ⟨A', k', he, h1, h2⟩ := own_form h
 injection he with _ _ he
 subst he
 exact ⟨h1, h2⟩
theorem protF (w : World) : Calls Tryz.prog 43 #[.bool false] w (PrtR 8 w) := by
 have HS := Lh store_i
 have HLd := Lh load_i
 have HF := Lh fence_i
 have HB0 : Hid (Blk (w.alloc (.cells #[.slice none 0 0, .slice none 0 0] 25)) w.heap.size 25 [.slice none 0 0, .slice none 0 0]) := Lh (Blk.new _ _ _)
 have HW0 : Hid (Below w.heap.size w (w.alloc (.cells #[.slice none 0 0, .slice none 0 0] 25))) := Lh ((Below.refl _ _).alloc (Nat.le_refl _) _)
 obtain ⟨ii, hii, hiiz, hiis, hiib⟩ := info_parts info_ins
 go_enter Tryz.func43, Tryz.ntmps43
 go_upto_region 1 with fail
 generalize w.alloc (.cells #[.slice none 0 0, .slice none 0 0] 25) = w0 at HB0 HW0 ⊢
 have hz0 : w.heap.size < w0.heap.size := HB0.o.lt
 go_wp2_with fail
 refine (HS.o _ _ _).mono ?_
 rintro e w1 ⟨rfl, hb1⟩
 have hz1 := hb1.size
 have HB1 := Lh (HB0.o.below hb1 HB0.o.lt)
 have HW1 := Lh (HW0.o.trans (hb1.mono HW0.o.size))
 clear hb1 HB0 HW0
 go_upto_region 2 with fail
 refine wp_name ?_
 intro w2 hV
 have hz2 : w2.heap.size = w1.heap.size + 1 := by rw [hV, World.size_alloc]
 have HO2 : Hid (w2.ownsRow w.heap.size 68 7 (.slice (some ⟨w1.heap.size, 0, none⟩) 1 1) 1 (insVals [stI 1 1])) := Lh (by rw [hV]; exact World.ownsRow_lit w1 (insVals [stI 1 1]).toArray 1 (by omega) (by simp [maxLen]) rfl)
 have HB2 := Lh (show Blk w2 w.heap.size 25 [.slice none 0 0, .slice none 0 0] by rw [hV]; exact HB1.o.alloc _)
 have HW2 := Lh (show Below w.heap.size w w2 by rw [hV]; exact HW1.o.alloc HW1.o.size _)
 clear hV HB1 HW1
 go_wp2_with fail
 refine (HLd.o _ _ _).mono ?_
 rintro e w3 ⟨rfl, hb3⟩
 have hz3 := hb3.size
 have HB3 := Lh ((HB2.o).below hb3 (HB2.o).lt)
 have HW3 := Lh (HW2.o.trans (hb3.mono HW2.o.size))
 have HO3 := Lh ((HO2.o).below hb3)
 clear hb3 HB2 HW2 HO2
 go_wp2_with fail
 refine (HLd.o _ _ _).mono ?_
 rintro e w4 ⟨rfl, hb4⟩
 have hz4 := hb4.size
 have HB4 := Lh ((HB3.o).below hb4 (HB3.o).lt)
 have HW4 := Lh (HW3.o.trans (hb4.mono HW3.o.size))
 have HO4 := Lh ((HO3.o).below hb4)
 clear hb4 HB3 HW3 HO3
 go_upto_region 5 with (at_builtin; go_must (refine wpList_app _ rfl _ _ 69 rfl w.heap.size 68 ii (.agg #[.int .i64 0, .int .i64 0, .int .i64 0, .int .i64 0, .int .i64 0, .int .i64 0, .int .i64 0]) 7 56 Tryz.underlying69 hii hiiz hiis hiib rfl (by decide) (.slice (some ⟨w1.heap.size, 0, none⟩) 1 1) 1 (insVals [stI 1 1]) rfl (HO4.o.alloc _) (w4.heap.size + 1) (some ⟨w4.heap.size, 0, none⟩) 3 3 (insVals [ldI 0 0, skI 0 0, ldI 1 2]) rfl (((Blk.new w4 68 (insVals [ldI 0 0, skI 0 0, ldI 1 2])).sl rfl).up (by simp)) (insVals_one _) 4 rfl (insVals [stI 1 1, ldI 0 0, skI 0 0, ldI 1 2]) (insVals_app [stI 1 1] [ldI 0 0, skI 0 0, ldI 1 2]) _ rfl (by simp only [maxLen]; omega) (by omega) (by simp; omega) ?_; intro A4 k4 X4 hown hg hat hk1 hk2))
 have HB5 := Lh ((HB4.o.alloc _).grown hg (own_nb HO4.o HB4.o (by decide)))
 have HW5 := Lh ((HW4.o.alloc HW4.o.size _).grown hg (HW4.o.alloc HW4.o.size _).size (fun q hq => (HO4.o.lt q hq).1))
 have HO5 := Lh hown
 have hz5 := hg.size
 rw [World.size_alloc] at hz5
 clear hown hg hat HB4 HW4 HO4
 obtain ⟨w5, rfl⟩ : ∃ z : World, z = X4 := ⟨_, rfl⟩
 go_wp2_with fail
 refine (HLd.o _ _ _).mono ?_
 rintro e w6 ⟨rfl, hb6⟩
 have hz6 := hb6.size
 have HB6 := Lh ((HB5.o).below hb6 (HB5.o).lt)
 have HW6 := Lh (HW5.o.trans (hb6.mono HW5.o.size))
 have HO6 := Lh ((HO5.o).below hb6)
 clear hb6 HB5 HW5 HO5
 go_wp2_with fail
 refine (HS.o _ _ _).mono ?_
 rintro e w7 ⟨rfl, hb7⟩
 have hz7 := hb7.size
 have HB7 := Lh ((HB6.o).below hb7 (HB6.o).lt)
 have HW7 := Lh (HW6.o.trans (hb7.mono HW6.o.size))
 have HO7 := Lh ((HO6.o).below hb7)
 clear hb7 HB6 HW6 HO6
 go_upto_region 6 with fail
 refine wp_name ?_
 intro V hV
 have HVz : Hid (V.heap.size = w7.heap.size + 1) := Lh (by rw [hV, World.size_alloc])
 have HBv : Hid (Blk V w.heap.size 25 [.slice none 0 0, .slice none 0 0]) := Lh (by rw [hV]; exact HB7.o.alloc _)
 have HWv : Hid (Below w.heap.size w V) := Lh (by rw [hV]; exact HW7.o.alloc HW7.o.size _)
 have HOv : Hid (V.ownsRow w.heap.size 68 7 (.slice A4 4 k4) 4 (insVals [stI 1 1, ldI 0 0, skI 0 0, ldI 1 2])) := Lh (by rw [hV]; exact HO7.o.alloc _)
 have HDv : Hid (Blk V w7.heap.size 68 (insVals [swI 0 0 1 0, ldI 1 1, skI 1 1, stI 2 (-1)])) := Lh (by rw [hV]; exact Blk.new w7 68 (insVals [swI 0 0 1 0, ldI 1 1, skI 1 1, stI 2 (-1)]))
 have HWd : Hid (Blk (V.alloc (.cells #[.int .i64 1, .int .i64 0, .int .i64 7] 3)) (w7.heap.size + 1) 3 (ints [1, 0, 7])) := Lh (by
  have h9 := Blk.new V 3 (ints [1, 0, 7])
  rw [HVz.o] at h9
  exact h9)
 have HTa : Hid (Blk ((V.alloc (.cells #[.int .i64 1, .int .i64 0, .int .i64 7] 3)).alloc (.cells #[.slice A4 4 k4, .slice (some ⟨w7.heap.size, 0, none⟩) 4 4] 69)) (w7.heap.size + 1 + 1) 69 (List.map (fun c : Hd × List Ins => hdV c.1) [((A4, 4, k4), [stI 1 1, ldI 0 0, skI 0 0, ldI 1 2]), ((some ⟨w7.heap.size, 0, none⟩, 4, 4), [swI 0 0 1 0, ldI 1 1, skI 1 1, stI 2 (-1)])])) := Lh (by
  have h9 := Blk.new (V.alloc (.cells #[.int .i64 1, .int .i64 0, .int .i64 7] 3)) 69 (List.map (fun c : Hd × List Ins => hdV c.1) [((A4, 4, k4), [stI 1 1, ldI 0 0, skI 0 0, ldI 1 2]), ((some ⟨w7.heap.size, 0, none⟩, 4, 4), [swI 0 0 1 0, ldI 1 1, skI 1 1, stI 2 (-1)])])
  rw [World.size_alloc, HVz.o] at h9
  exact h9)
 have hVz := HVz.o
 have c0 : ((V.alloc (.cells #[.int .i64 1, .int .i64 0, .int .i64 7] 3)).alloc (.cells #[.slice A4 4 k4, .slice (some ⟨w7.heap.size, 0, none⟩) 4 4] 69)).cell? ⟨w.heap.size, 0, none⟩ = some (.slice none 0 0) := ((HBv.o.alloc _).alloc _).cell rfl
 have c1 : ((V.alloc (.cells #[.int .i64 1, .int .i64 0, .int .i64 7] 3)).alloc (.cells #[.slice A4 4 k4, .slice (some ⟨w7.heap.size, 0, none⟩) 4 4] 69)).cell? ⟨w.heap.size, 1, none⟩ = some (.slice none 0 0) := ((HBv.o.alloc _).alloc _).cell rfl
 have f0 := ((HBv.o.alloc (.cells #[.int .i64 1, .int .i64 0, .int .i64 7] 3)).alloc (.cells #[.slice A4 4 k4, .slice (some ⟨w7.heap.size, 0, none⟩) 4 4] 69)).frozen 0
 have f1 := ((HBv.o.alloc (.cells #[.int .i64 1, .int .i64 0, .int .i64 7] 3)).alloc (.cells #[.slice A4 4 k4, .slice (some ⟨w7.heap.size, 0, none⟩) 4 4] 69)).frozen 1
 clear hV HB7 HW7 HO7
 go_wp2_with fail
 have HBf := ((((HBv.o.alloc (.cells #[.int .i64 1, .int .i64 0, .int .i64 7] 3)).alloc (.cells #[.slice A4 4 k4, .slice (some ⟨w7.heap.size, 0, none⟩) 4 4] 69)).set_ 0 (.slice (some ⟨w7.heap.size + 1, 0, none⟩) 3 3)).set_ 1 (.slice (some ⟨w7.heap.size + 1 + 1, 0, none⟩) 2 2))
 refine bodyPost_ret_by (results_cell_row rfl _ _ w.heap.size 25 #[.slice (some ⟨w7.heap.size + 1, 0, none⟩) 3 3, .slice (some ⟨w7.heap.size + 1 + 1, 0, none⟩) 2 2] (0, 0) _ rfl HBf Tryz.underlying25 rfl size_lit) rfl ?_
 refine ⟨⟨some ⟨w7.heap.size + 1, 0, none⟩, 3, 3, [1, 0, 7], some ⟨w7.heap.size + 1 + 1, 0, none⟩, 2, 2, [((A4, 4, k4), [stI 1 1, ldI 0 0, skI 0 0, ldI 1 2]), ((some ⟨w7.heap.size, 0, none⟩, 4, 4), [swI 0 0 1 0, ldI 1 1, skI 1 1, stI 2 (-1)])]⟩, rfl, rfl, rfl, (((HWv.o.alloc HWv.o.size _).alloc (Nat.le_trans HWv.o.size (by rw [World.size_alloc]; omega)) _).setCell (Nat.le_refl _) _).setCell (Nat.le_refl _) _, fun W' hk hz => ?_⟩
 have hkB : ∀ {g : Nat} {t : TypeId} {cs : List Value}, w.heap.size <= g -> Blk ((((V.alloc (.cells #[.int .i64 1, .int .i64 0, .int .i64 7] 3)).alloc (.cells #[.slice A4 4 k4, .slice (some ⟨w7.heap.size, 0, none⟩) 4 4] 69)).setCell ⟨w.heap.size, 0, none⟩ (.slice (some ⟨w7.heap.size + 1, 0, none⟩) 3 3)).setCell ⟨w.heap.size, 1, none⟩ (.slice (some ⟨w7.heap.size + 1 + 1, 0, none⟩) 2 2)) g t cs -> Blk W' g t cs := fun hg hB => hB.kept (hk _ hg hB.lt)
 refine lit_of (ws := [1, 0, 7]) (cs := [((A4, 4, k4), [stI 1 1, ldI 0 0, skI 0 0, ldI 1 2]), ((some ⟨w7.heap.size, 0, none⟩, 4, 4), [swI 0 0 1 0, ldI 1 1, skI 1 1, stI 2 (-1)])]) (hkB (by omega) (((HWd.o.alloc _).far (by simp; omega) _).far (by simp; omega) _)) (hkB (by omega) ((HTa.o.far (by simp; omega) _).far (by simp; omega) _)) ⟨by simp, by simp⟩ ?_
 intro c hc
 simp only [List.mem_cons, List.not_mem_nil, or_false] at hc
 have HBv' := ((HBv.o.alloc (.cells #[.int .i64 1, .int .i64 0, .int .i64 7] 3)).alloc (.cells #[.slice A4 4 k4, .slice (some ⟨w7.heap.size, 0, none⟩) 4 4] 69))
 rcases hc with rfl | rfl
 ·exact sl_codes (c := [stI 1 1, ldI 0 0, skI 0 0, ldI 1 2]) (own_hk (own_far (own_far ((HOv.o.alloc _).alloc _) HBv' (by decide)) (HBv'.set_ 0 _) (by decide)) hk) (by decide)
 ·exact code_of (c := [swI 0 0 1 0, ldI 1 1, skI 1 1, stI 2 (-1)]) (hkB (by omega) ((((HDv.o.alloc _).alloc _).far (by simp; omega) _).far (by simp; omega) _)) (by decide) (by decide)
theorem protT (w : World) : Calls Tryz.prog 43 #[.bool true] w (PrtR 9 w) := by
 have HS := Lh store_i
 have HLd := Lh load_i
 have HF := Lh fence_i
 have HB0 : Hid (Blk (w.alloc (.cells #[.slice none 0 0, .slice none 0 0] 25)) w.heap.size 25 [.slice none 0 0, .slice none 0 0]) := Lh (Blk.new _ _ _)
 have HW0 : Hid (Below w.heap.size w (w.alloc (.cells #[.slice none 0 0, .slice none 0 0] 25))) := Lh ((Below.refl _ _).alloc (Nat.le_refl _) _)
 obtain ⟨ii, hii, hiiz, hiis, hiib⟩ := info_parts info_ins
 go_enter Tryz.func43, Tryz.ntmps43
 go_upto_region 1 with fail
 generalize w.alloc (.cells #[.slice none 0 0, .slice none 0 0] 25) = w0 at HB0 HW0 ⊢
 have hz0 : w.heap.size < w0.heap.size := HB0.o.lt
 go_wp2_with fail
 refine (HS.o _ _ _).mono ?_
 rintro e w1 ⟨rfl, hb1⟩
 have hz1 := hb1.size
 have HB1 := Lh (HB0.o.below hb1 HB0.o.lt)
 have HW1 := Lh (HW0.o.trans (hb1.mono HW0.o.size))
 clear hb1 HB0 HW0
 go_upto_region 2 with fail
 refine wp_name ?_
 intro w2 hV
 have hz2 : w2.heap.size = w1.heap.size + 1 := by rw [hV, World.size_alloc]
 have HO2 : Hid (w2.ownsRow w.heap.size 68 7 (.slice (some ⟨w1.heap.size, 0, none⟩) 1 1) 1 (insVals [stI 1 1])) := Lh (by rw [hV]; exact World.ownsRow_lit w1 (insVals [stI 1 1]).toArray 1 (by omega) (by simp [maxLen]) rfl)
 have HB2 := Lh (show Blk w2 w.heap.size 25 [.slice none 0 0, .slice none 0 0] by rw [hV]; exact HB1.o.alloc _)
 have HW2 := Lh (show Below w.heap.size w w2 by rw [hV]; exact HW1.o.alloc HW1.o.size _)
 clear hV HB1 HW1
 go_wp2_with fail
 refine (HF.o _).mono ?_
 rintro e w3 ⟨rfl, hb3⟩
 have hz3 := hb3.size
 have HB3 := Lh ((HB2.o).below hb3 (HB2.o).lt)
 have HW3 := Lh (HW2.o.trans (hb3.mono HW2.o.size))
 have HO3 := Lh ((HO2.o).below hb3)
 clear hb3 HB2 HW2 HO2
 go_upto_region 4 with (at_builtin; go_must (refine wpList_app _ rfl _ _ 69 rfl w.heap.size 68 ii (.agg #[.int .i64 0, .int .i64 0, .int .i64 0, .int .i64 0, .int .i64 0, .int .i64 0, .int .i64 0]) 7 56 Tryz.underlying69 hii hiiz hiis hiib rfl (by decide) (.slice (some ⟨w1.heap.size, 0, none⟩) 1 1) 1 (insVals [stI 1 1]) rfl (HO3.o.alloc _) (w3.heap.size + 1) (some ⟨w3.heap.size, 0, none⟩) 1 1 (insVals [fnI]) rfl (((Blk.new w3 68 (insVals [fnI])).sl rfl).up (by simp)) (insVals_one _) 2 rfl (insVals [stI 1 1, fnI]) (insVals_app [stI 1 1] [fnI]) _ rfl (by simp only [maxLen]; omega) (by omega) (by simp; omega) ?_; intro A3 k3 X3 hown hg hat hk1 hk2))
 have HB4 := Lh ((HB3.o.alloc _).grown hg (own_nb HO3.o HB3.o (by decide)))
 have HW4 := Lh ((HW3.o.alloc HW3.o.size _).grown hg (HW3.o.alloc HW3.o.size _).size (fun q hq => (HO3.o.lt q hq).1))
 have HO4 := Lh hown
 have hz4 := hg.size
 rw [World.size_alloc] at hz4
 clear hown hg hat HB3 HW3 HO3
 obtain ⟨w4, rfl⟩ : ∃ z : World, z = X3 := ⟨_, rfl⟩
 go_wp2_with fail
 refine (HLd.o _ _ _).mono ?_
 rintro e w5 ⟨rfl, hb5⟩
 have hz5 := hb5.size
 have HB5 := Lh ((HB4.o).below hb5 (HB4.o).lt)
 have HW5 := Lh (HW4.o.trans (hb5.mono HW4.o.size))
 have HO5 := Lh ((HO4.o).below hb5)
 clear hb5 HB4 HW4 HO4
 go_wp2_with fail
 refine (HLd.o _ _ _).mono ?_
 rintro e w6 ⟨rfl, hb6⟩
 have hz6 := hb6.size
 have HB6 := Lh ((HB5.o).below hb6 (HB5.o).lt)
 have HW6 := Lh (HW5.o.trans (hb6.mono HW5.o.size))
 have HO6 := Lh ((HO5.o).below hb6)
 clear hb6 HB5 HW5 HO5
 go_upto_region 5 with (at_builtin; go_must (refine wpList_app _ rfl _ _ 69 rfl w.heap.size 68 ii (.agg #[.int .i64 0, .int .i64 0, .int .i64 0, .int .i64 0, .int .i64 0, .int .i64 0, .int .i64 0]) 7 56 Tryz.underlying69 hii hiiz hiis hiib rfl (by decide) (.slice A3 2 k3) 2 (insVals [stI 1 1, fnI]) rfl (HO6.o.alloc _) (w6.heap.size + 1) (some ⟨w6.heap.size, 0, none⟩) 3 3 (insVals [ldI 0 0, skI 0 0, ldI 1 2]) rfl (((Blk.new w6 68 (insVals [ldI 0 0, skI 0 0, ldI 1 2])).sl rfl).up (by simp)) (insVals_one _) 5 rfl (insVals [stI 1 1, fnI, ldI 0 0, skI 0 0, ldI 1 2]) (insVals_app [stI 1 1, fnI] [ldI 0 0, skI 0 0, ldI 1 2]) _ rfl (by simp only [maxLen]; omega) (by omega) (by simp; omega) ?_; intro A6 k6 X6 hown hg hat hk1 hk2))
 have HB7 := Lh ((HB6.o.alloc _).grown hg (own_nb HO6.o HB6.o (by decide)))
 have HW7 := Lh ((HW6.o.alloc HW6.o.size _).grown hg (HW6.o.alloc HW6.o.size _).size (fun q hq => (HO6.o.lt q hq).1))
 have HO7 := Lh hown
 have hz7 := hg.size
 rw [World.size_alloc] at hz7
 clear hown hg hat HB6 HW6 HO6
 obtain ⟨w7, rfl⟩ : ∃ z : World, z = X6 := ⟨_, rfl⟩
 go_wp2_with fail
 refine (HLd.o _ _ _).mono ?_
 rintro e w8 ⟨rfl, hb8⟩
 have hz8 := hb8.size
 have HB8 := Lh ((HB7.o).below hb8 (HB7.o).lt)
 have HW8 := Lh (HW7.o.trans (hb8.mono HW7.o.size))
 have HO8 := Lh ((HO7.o).below hb8)
 clear hb8 HB7 HW7 HO7
 go_wp2_with fail
 refine (HS.o _ _ _).mono ?_
 rintro e w9 ⟨rfl, hb9⟩
 have hz9 := hb9.size
 have HB9 := Lh ((HB8.o).below hb9 (HB8.o).lt)
 have HW9 := Lh (HW8.o.trans (hb9.mono HW8.o.size))
 have HO9 := Lh ((HO8.o).below hb9)
 clear hb9 HB8 HW8 HO8
 go_upto_region 6 with fail
 refine wp_name ?_
 intro V hV
 have HVz : Hid (V.heap.size = w9.heap.size + 1) := Lh (by rw [hV, World.size_alloc])
 have HBv : Hid (Blk V w.heap.size 25 [.slice none 0 0, .slice none 0 0]) := Lh (by rw [hV]; exact HB9.o.alloc _)
 have HWv : Hid (Below w.heap.size w V) := Lh (by rw [hV]; exact HW9.o.alloc HW9.o.size _)
 have HOv : Hid (V.ownsRow w.heap.size 68 7 (.slice A6 5 k6) 5 (insVals [stI 1 1, fnI, ldI 0 0, skI 0 0, ldI 1 2])) := Lh (by rw [hV]; exact HO9.o.alloc _)
 have HDv : Hid (Blk V w9.heap.size 68 (insVals [swI 0 0 1 0, ldI 1 1, skI 1 1, stI 2 (-1)])) := Lh (by rw [hV]; exact Blk.new w9 68 (insVals [swI 0 0 1 0, ldI 1 1, skI 1 1, stI 2 (-1)]))
 have HWd : Hid (Blk (V.alloc (.cells #[.int .i64 1, .int .i64 0, .int .i64 7] 3)) (w9.heap.size + 1) 3 (ints [1, 0, 7])) := Lh (by
  have h9 := Blk.new V 3 (ints [1, 0, 7])
  rw [HVz.o] at h9
  exact h9)
 have HTa : Hid (Blk ((V.alloc (.cells #[.int .i64 1, .int .i64 0, .int .i64 7] 3)).alloc (.cells #[.slice A6 5 k6, .slice (some ⟨w9.heap.size, 0, none⟩) 4 4] 69)) (w9.heap.size + 1 + 1) 69 (List.map (fun c : Hd × List Ins => hdV c.1) [((A6, 5, k6), [stI 1 1, fnI, ldI 0 0, skI 0 0, ldI 1 2]), ((some ⟨w9.heap.size, 0, none⟩, 4, 4), [swI 0 0 1 0, ldI 1 1, skI 1 1, stI 2 (-1)])])) := Lh (by
  have h9 := Blk.new (V.alloc (.cells #[.int .i64 1, .int .i64 0, .int .i64 7] 3)) 69 (List.map (fun c : Hd × List Ins => hdV c.1) [((A6, 5, k6), [stI 1 1, fnI, ldI 0 0, skI 0 0, ldI 1 2]), ((some ⟨w9.heap.size, 0, none⟩, 4, 4), [swI 0 0 1 0, ldI 1 1, skI 1 1, stI 2 (-1)])])
  rw [World.size_alloc, HVz.o] at h9
  exact h9)
 have hVz := HVz.o
 have c0 : ((V.alloc (.cells #[.int .i64 1, .int .i64 0, .int .i64 7] 3)).alloc (.cells #[.slice A6 5 k6, .slice (some ⟨w9.heap.size, 0, none⟩) 4 4] 69)).cell? ⟨w.heap.size, 0, none⟩ = some (.slice none 0 0) := ((HBv.o.alloc _).alloc _).cell rfl
 have c1 : ((V.alloc (.cells #[.int .i64 1, .int .i64 0, .int .i64 7] 3)).alloc (.cells #[.slice A6 5 k6, .slice (some ⟨w9.heap.size, 0, none⟩) 4 4] 69)).cell? ⟨w.heap.size, 1, none⟩ = some (.slice none 0 0) := ((HBv.o.alloc _).alloc _).cell rfl
 have f0 := ((HBv.o.alloc (.cells #[.int .i64 1, .int .i64 0, .int .i64 7] 3)).alloc (.cells #[.slice A6 5 k6, .slice (some ⟨w9.heap.size, 0, none⟩) 4 4] 69)).frozen 0
 have f1 := ((HBv.o.alloc (.cells #[.int .i64 1, .int .i64 0, .int .i64 7] 3)).alloc (.cells #[.slice A6 5 k6, .slice (some ⟨w9.heap.size, 0, none⟩) 4 4] 69)).frozen 1
 clear hV HB9 HW9 HO9
 go_wp2_with fail
 have HBf := ((((HBv.o.alloc (.cells #[.int .i64 1, .int .i64 0, .int .i64 7] 3)).alloc (.cells #[.slice A6 5 k6, .slice (some ⟨w9.heap.size, 0, none⟩) 4 4] 69)).set_ 0 (.slice (some ⟨w9.heap.size + 1, 0, none⟩) 3 3)).set_ 1 (.slice (some ⟨w9.heap.size + 1 + 1, 0, none⟩) 2 2))
 refine bodyPost_ret_by (results_cell_row rfl _ _ w.heap.size 25 #[.slice (some ⟨w9.heap.size + 1, 0, none⟩) 3 3, .slice (some ⟨w9.heap.size + 1 + 1, 0, none⟩) 2 2] (0, 0) _ rfl HBf Tryz.underlying25 rfl size_lit) rfl ?_
 refine ⟨⟨some ⟨w9.heap.size + 1, 0, none⟩, 3, 3, [1, 0, 7], some ⟨w9.heap.size + 1 + 1, 0, none⟩, 2, 2, [((A6, 5, k6), [stI 1 1, fnI, ldI 0 0, skI 0 0, ldI 1 2]), ((some ⟨w9.heap.size, 0, none⟩, 4, 4), [swI 0 0 1 0, ldI 1 1, skI 1 1, stI 2 (-1)])]⟩, rfl, rfl, rfl, (((HWv.o.alloc HWv.o.size _).alloc (Nat.le_trans HWv.o.size (by rw [World.size_alloc]; omega)) _).setCell (Nat.le_refl _) _).setCell (Nat.le_refl _) _, fun W' hk hz => ?_⟩
 have hkB : ∀ {g : Nat} {t : TypeId} {cs : List Value}, w.heap.size <= g -> Blk ((((V.alloc (.cells #[.int .i64 1, .int .i64 0, .int .i64 7] 3)).alloc (.cells #[.slice A6 5 k6, .slice (some ⟨w9.heap.size, 0, none⟩) 4 4] 69)).setCell ⟨w.heap.size, 0, none⟩ (.slice (some ⟨w9.heap.size + 1, 0, none⟩) 3 3)).setCell ⟨w.heap.size, 1, none⟩ (.slice (some ⟨w9.heap.size + 1 + 1, 0, none⟩) 2 2)) g t cs -> Blk W' g t cs := fun hg hB => hB.kept (hk _ hg hB.lt)
 refine lit_of (ws := [1, 0, 7]) (cs := [((A6, 5, k6), [stI 1 1, fnI, ldI 0 0, skI 0 0, ldI 1 2]), ((some ⟨w9.heap.size, 0, none⟩, 4, 4), [swI 0 0 1 0, ldI 1 1, skI 1 1, stI 2 (-1)])]) (hkB (by omega) (((HWd.o.alloc _).far (by simp; omega) _).far (by simp; omega) _)) (hkB (by omega) ((HTa.o.far (by simp; omega) _).far (by simp; omega) _)) ⟨by simp, by simp⟩ ?_
 intro c hc
 simp only [List.mem_cons, List.not_mem_nil, or_false] at hc
 have HBv' := ((HBv.o.alloc (.cells #[.int .i64 1, .int .i64 0, .int .i64 7] 3)).alloc (.cells #[.slice A6 5 k6, .slice (some ⟨w9.heap.size, 0, none⟩) 4 4] 69))
 rcases hc with rfl | rfl
 ·exact sl_codes (c := [stI 1 1, fnI, ldI 0 0, skI 0 0, ldI 1 2]) (own_hk (own_far (own_far ((HOv.o.alloc _).alloc _) HBv' (by decide)) (HBv'.set_ 0 _) (by decide)) hk) (by decide)
 ·exact code_of (c := [swI 0 0 1 0, ldI 1 1, skI 1 1, stI 2 (-1)]) (hkB (by omega) ((((HDv.o.alloc _).alloc _).far (by simp; omega) _).far (by simp; omega) _)) (by decide) (by decide)
end Go.Proofs.YtgjdgapfnfhklaaGreat
