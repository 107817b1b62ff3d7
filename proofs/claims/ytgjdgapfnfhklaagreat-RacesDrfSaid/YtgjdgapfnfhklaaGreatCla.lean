/-
reclaimref19.Names, store, load, fence, protect, Classic.
-/
import Derived.Test.YtgjdgapfnfhklaaGreatZ19
import Derived.Test.YtgjdgapfnfhklaaGreatQcp
import Derived.Test.YtgjdgapfnfhklaaGreatZ0
set_option linter.unusedSimpArgs false
set_option linter.unusedVariables false
set_option maxRecDepth 100000
set_option maxHeartbeats 40000000
namespace Go.Proofs.YtgjdgapfnfhklaaGreat
open Go.RowKit
def InsR (x : Ins) (w : World) (e : Ending) (w' : World) : Prop := e = .returned (insV x) /\ Below w.heap.size w w'
theorem size_ins : (Tryz.prog.info? 68).map (·.size) = some 7 := by kernel_rfl
theorem store_i (a v : Int) (w : World) : Calls Tryz.prog 40 #[.int .i64 a, .int .i64 v] w (InsR (stI a v) w) := by
 go_enter Tryz.func40, Tryz.ntmps40
 go_wp2_with fail
 refine bodyPost_ret_by (results_cell_row rfl _ _ w.heap.size 68 _ (0, 0) _ rfl (Blk.new w 68 (insL (stI a v))) Tryz.underlying68 rfl size_ins) rfl ?_
 exact ⟨rfl, (Below.refl _ _).alloc (Nat.le_refl _) _⟩
theorem load_i (r a : Int) (w : World) : Calls Tryz.prog 41 #[.int .i64 r, .int .i64 a] w (InsR (ldI r a) w) := by
 go_enter Tryz.func41, Tryz.ntmps41
 go_wp2_with fail
 refine bodyPost_ret_by (results_cell_row rfl _ _ w.heap.size 68 _ (0, 0) _ rfl (Blk.new w 68 (insL (ldI r a))) Tryz.underlying68 rfl size_ins) rfl ?_
 exact ⟨rfl, (Below.refl _ _).alloc (Nat.le_refl _) _⟩
theorem fence_i (w : World) : Calls Tryz.prog 42 #[] w (InsR fnI w) := by
 go_enter Tryz.func42, Tryz.ntmps42
 go_wp2_with fail
 refine bodyPost_ret_by (results_cell_row rfl _ _ w.heap.size 68 _ (0, 0) _ rfl (Blk.new w 68 (insL fnI)) Tryz.underlying68 rfl size_ins) rfl ?_
 exact ⟨rfl, (Below.refl _ _).alloc (Nat.le_refl _) _⟩
def ClsR (k : Nat) (w : World) (e : Ending) (w' : World) : Prop := ∃ l : Lit, e = .returned (.tuple #[litV l, .bool true]) /\ l.ws = clsW k /\ l.th.map (·.2) = clsT k /\ LitAt w' w'.heap.size l /\ Below w.heap.size w w'
theorem lit_of {W : World} {gw gt : Nat} {ws : List Int} {cs : List (Hd × List Ins)} (h1 : Blk W gw 3 (ints ws)) (h2 : Blk W gt 69 (cs.map fun c => hdV c.1)) (hm : ws.length <= 8 /\ cs.length <= 8)
  (h3 : ∀ c ∈ cs, Sl W W.heap.size 7 c.1.1 c.1.2.1 (insVals c.2) /\ (c.1.2.1 <= c.1.2.2 /\ c.1.2.2 <= maxLen) /\ ∀ i ∈ c.2, SrcOk i) : LitAt W W.heap.size ⟨some ⟨gw, 0, none⟩, ws.length, ws.length, ws, some ⟨gt, 0, none⟩, cs.length, cs.length, cs⟩ :=
 ⟨h1.sl (by simp [ints]), ⟨Nat.le_refl _, by simp only [maxLen]; omega⟩, h2.sl (by simp), ⟨Nat.le_refl _, by simp only [maxLen]; omega⟩, h3⟩
theorem lit_of2 {W : World} {gw gt : Nat} {x y : Hd} {p q : List Ins} (h1 : Blk W gw 3 (ints [0, 0])) (h2 : Blk W gt 69 [hdV x, hdV y])
  (h3 : ∀ c ∈ [(x, p), (y, q)], Sl W W.heap.size 7 c.1.1 c.1.2.1 (insVals c.2) /\ (c.1.2.1 <= c.1.2.2 /\ c.1.2.2 <= maxLen) /\ ∀ i ∈ c.2, SrcOk i) : LitAt W W.heap.size ⟨some ⟨gw, 0, none⟩, 2, 2, [0, 0], some ⟨gt, 0, none⟩, 2, 2, [(x, p), (y, q)]⟩ :=
 lit_of (ws := [0, 0]) (cs := [(x, p), (y, q)]) h1 h2 ⟨by simp, by simp⟩ h3
theorem code_of {W : World} {g : Nat} {c : List Ins} (h : Blk W g 68 (insVals c)) (hm : c.length <= 8) (hs : ∀ i ∈ c, SrcOk i) : Sl W W.heap.size 7 (some ⟨g, 0, none⟩) c.length (insVals c) /\ (c.length <= c.length /\ c.length <= maxLen) /\ ∀ i ∈ c, SrcOk i :=
 ⟨h.sl (insVals_len c), ⟨Nat.le_refl _, by simp only [maxLen]; omega⟩, hs⟩
instance : DecidablePred SrcOk := fun x => inferInstanceAs (Decidable (-9223372036854775808 <= x.src /\ x.src <= 9223372036854775807))
theorem size_lit : (Tryz.prog.info? 25).map (·.size) = some 2 := by kernel_rfl
theorem wp_name {P : Program} {c : Code} {Q : Exit -> Act -> World -> Prop} {a : Act} {w : World} (h : ∀ V, V = w -> c.wp P Q a V) : c.wp P Q a w := h w rfl
theorem cl_last {w V : World} {o : Obj} {xs : List Value} {t : TypeId} (h : V = (w.alloc o).alloc (.cells xs.toArray t)) : Blk V (w.heap.size + 1) t xs := by
 subst h
 have h9 := Blk.new (w.alloc o) t xs
 rwa [World.size_alloc] at h9
theorem cl_prev {w V : World} {o : Obj} {xs : List Value} {t : TypeId} (h : V = (w.alloc (.cells xs.toArray t)).alloc o) : Blk V w.heap.size t xs := by
 subst h
 exact (Blk.new w t xs).alloc _
theorem cl_old {w V : World} {o p : Obj} {g : Nat} {xs : List Value} {t : TypeId} (h : V = (w.alloc p).alloc o) (hb : Blk w g t xs) : Blk V g t xs := by
 subst h
 exact (hb.alloc _).alloc _
theorem cl_bel {w V w0 : World} {o p : Obj} (h : V = (w.alloc p).alloc o) (hb : Below w0.heap.size w0 w) : Below w0.heap.size w0 V /\ V.heap.size = w.heap.size + 1 + 1 := by
 subst h
 exact ⟨(hb.alloc hb.size _).alloc (by rw [World.size_alloc]; have := hb.size; omega) _, by rw [World.size_alloc, World.size_alloc]⟩
theorem cl_new {V : World} {n : Nat} (t : TypeId) (xs : List Value) (h : V.heap.size = n) : Blk (V.alloc (.cells xs.toArray t)) n t xs := by
 subst h
 exact Blk.new V t xs
theorem classic6x (w : World) : Calls Tryz.prog 15 #[.string ⟨#[83, 66]⟩] w (ClsR 0 w) /\ Calls Tryz.prog 15 #[.string ⟨#[77, 80]⟩] w (ClsR 1 w) /\ Calls Tryz.prog 15 #[.string ⟨#[76, 66]⟩] w (ClsR 2 w) /\ Calls Tryz.prog 15 #[.string ⟨#[82]⟩] w (ClsR 4 w) /\ Calls Tryz.prog 15 #[.string ⟨#[83]⟩] w (ClsR 5 w) /\ Calls Tryz.prog 15 #[.string ⟨#[50, 43, 50, 87]⟩] w (ClsR 6 w) := by
 refine ⟨?_, ?_, ?_, ?_, ?_, ?_⟩
 all_goals (
  have HS := Lh store_i
  have HLd := Lh load_i
  have HB0 : Hid (Blk (w.alloc (.cells #[.slice none 0 0, .slice none 0 0] 25)) w.heap.size 25 [.slice none 0 0, .slice none 0 0]) := Lh (Blk.new _ _ _)
  have HW0 : Hid (Below w.heap.size w (w.alloc (.cells #[.slice none 0 0, .slice none 0 0] 25))) := Lh ((Below.refl _ _).alloc (Nat.le_refl _) _)
  go_enter Tryz.func15, Tryz.ntmps15
  go_upto_region 1 with fail
  generalize w.alloc (.cells #[.slice none 0 0, .slice none 0 0] 25) = w0 at HB0 HW0 ⊢
  have hz0 : w.heap.size < w0.heap.size := HB0.o.lt
  go_wp2_with fail
  first | refine (HS.o _ _ _).mono ?_ | refine (HLd.o _ _ _).mono ?_
  rintro e w1 ⟨rfl, hb1⟩
  have hz1 := hb1.size
  have HB1 := Lh (HB0.o.below hb1 HB0.o.lt)
  have HW1 := Lh (HW0.o.trans (hb1.mono HW0.o.size))
  clear hb1 HB0 HW0
  go_wp2_with fail
  first | refine (HS.o _ _ _).mono ?_ | refine (HLd.o _ _ _).mono ?_
  rintro e w2 ⟨rfl, hb2⟩
  have hz2 := hb2.size
  have HB2 := Lh (HB1.o.below hb2 HB1.o.lt)
  have HW2 := Lh (HW1.o.trans (hb2.mono HW1.o.size))
  clear hb2 HB1 HW1
  go_wp2_with fail
  first | refine (HS.o _ _ _).mono ?_ | refine (HLd.o _ _ _).mono ?_
  rintro e w3 ⟨rfl, hb3⟩
  have hz3 := hb3.size
  rw [World.size_alloc] at hz3
  have HB3 := Lh ((HB2.o.alloc _).below hb3 (HB2.o.alloc _).lt)
  have HW3 := Lh ((HW2.o.alloc HW2.o.size _).trans (hb3.mono (Nat.le_trans HW2.o.size (by rw [World.size_alloc]; omega))))
  have HC3 := Lh ((Blk.new w2 68 _).below hb3 (Blk.new w2 68 _).lt)
  clear hb3 HB2 HW2
  go_wp2_with fail
  first | refine (HS.o _ _ _).mono ?_ | refine (HLd.o _ _ _).mono ?_
  rintro e w4 ⟨rfl, hb4⟩
  have hz4 := hb4.size
  have HB4 := Lh (HB3.o.below hb4 HB3.o.lt)
  have HW4 := Lh (HW3.o.trans (hb4.mono HW3.o.size))
  have HC4 := Lh (HC3.o.below hb4 HC3.o.lt)
  clear hb4 HB3 HW3 HC3
  go_upto_region 24 with fail
  refine wp_name ?_
  intro V hV
  have HB9 := Lh (cl_old hV HB4.o)
  have HT := Lh (cl_last (xs := [.slice (some ⟨w2.heap.size, 0, none⟩) 2 2, .slice (some ⟨w4.heap.size, 0, none⟩) 2 2]) hV)
  obtain ⟨hw9, hVz⟩ := cl_bel hV HW4.o
  have HW9 := Lh hw9
  have HWd := Lh (cl_new 3 (ints [0, 0]) hVz)
  have HD0 := Lh (cl_old hV HC4.o)
  have HD1 := Lh (cl_prev hV)
  have c0 : (V.alloc (.cells #[.int .i64 0, .int .i64 0] 3)).cell? ⟨w.heap.size, 0, none⟩ = some (.slice none 0 0) := (HB9.o.alloc _).cell rfl
  have c1 : (V.alloc (.cells #[.int .i64 0, .int .i64 0] 3)).cell? ⟨w.heap.size, 1, none⟩ = some (.slice none 0 0) := (HB9.o.alloc _).cell rfl
  have f0 := (HB9.o.alloc (.cells #[.int .i64 0, .int .i64 0] 3)).frozen 0
  have f1 := (HB9.o.alloc (.cells #[.int .i64 0, .int .i64 0] 3)).frozen 1
  clear hV HB4 HW4 hw9
  go_wp2_with fail
  refine bodyPost_ret_by (results_cell_row2 rfl _ _ w.heap.size 25 #[.slice (some ⟨w4.heap.size + 1 + 1, 0, none⟩) 2 2, .slice (some ⟨w4.heap.size + 1, 0, none⟩) 2 2] (0, 0) _ rfl (((HB9.o.alloc _).set_ 0 _).set_ 1 _) Tryz.underlying25 rfl size_lit) rfl ?_
  refine ⟨⟨some ⟨w4.heap.size + 1 + 1, 0, none⟩, 2, 2, [0, 0], some ⟨w4.heap.size + 1, 0, none⟩, 2, 2, [((some ⟨w2.heap.size, 0, none⟩, 2, 2), _), ((some ⟨w4.heap.size, 0, none⟩, 2, 2), _)]⟩, rfl, rfl, rfl, ?_, ((HW9.o.alloc HW9.o.size _).setCell (Nat.le_refl _) _).setCell (Nat.le_refl _) _⟩
  refine lit_of2 ((HWd.o.far (p := ⟨w.heap.size, 0, none⟩) (by simp; omega) _).far (p := ⟨w.heap.size, 1, none⟩) (by simp; omega) _) (((HT.o.alloc _).far (p := ⟨w.heap.size, 0, none⟩) (by simp; omega) _).far (p := ⟨w.heap.size, 1, none⟩) (by simp; omega) _) ?_
  intro c hc
  simp only [List.mem_cons, List.not_mem_nil, or_false] at hc
  rcases hc with rfl | rfl
  ·exact code_of (((HD0.o.alloc _).far (p := ⟨w.heap.size, 0, none⟩) (by simp; omega) _).far (p := ⟨w.heap.size, 1, none⟩) (by simp; omega) _) (by dsimp only; decide) (by dsimp only; decide)
  ·exact code_of (((HD1.o.alloc _).far (p := ⟨w.heap.size, 0, none⟩) (by simp; omega) _).far (p := ⟨w.heap.size, 1, none⟩) (by simp; omega) _) (by dsimp only; decide) (by dsimp only; decide))
theorem classic0 (w : World) : Calls Tryz.prog 15 #[.string ⟨#[83, 66]⟩] w (ClsR 0 w) := (classic6x w).1
theorem classic1 (w : World) : Calls Tryz.prog 15 #[.string ⟨#[77, 80]⟩] w (ClsR 1 w) := (classic6x w).2.1
theorem classic2 (w : World) : Calls Tryz.prog 15 #[.string ⟨#[76, 66]⟩] w (ClsR 2 w) := (classic6x w).2.2.1
theorem classic4 (w : World) : Calls Tryz.prog 15 #[.string ⟨#[82]⟩] w (ClsR 4 w) := (classic6x w).2.2.2.1
theorem classic5 (w : World) : Calls Tryz.prog 15 #[.string ⟨#[83]⟩] w (ClsR 5 w) := (classic6x w).2.2.2.2.1
theorem classic6 (w : World) : Calls Tryz.prog 15 #[.string ⟨#[50, 43, 50, 87]⟩] w (ClsR 6 w) := (classic6x w).2.2.2.2.2
theorem classic3 (w : World) : Calls Tryz.prog 15 #[.string ⟨#[73, 82, 73, 87]⟩] w (ClsR 3 w) := by
 have HS := Lh store_i
 have HLd := Lh load_i
 have HF := Lh fence_i
 have HB0 : Hid (Blk (w.alloc (.cells #[.slice none 0 0, .slice none 0 0] 25)) w.heap.size 25 [.slice none 0 0, .slice none 0 0]) := Lh (Blk.new _ _ _)
 have HW0 : Hid (Below w.heap.size w (w.alloc (.cells #[.slice none 0 0, .slice none 0 0] 25))) := Lh ((Below.refl _ _).alloc (Nat.le_refl _) _)
 go_enter Tryz.func15, Tryz.ntmps15
 go_upto_region 1 with fail
 generalize w.alloc (.cells #[.slice none 0 0, .slice none 0 0] 25) = w0 at HB0 HW0 ⊢
 have hz0 : w.heap.size < w0.heap.size := HB0.o.lt
 go_wp2_with fail
 refine (HS.o _ _ _).mono ?_
 rintro e w1 ⟨rfl, hb1⟩
 have hz1 := hb1.size
 have HB1 := Lh ((HB0.o).below hb1 (HB0.o).lt)
 have HW1 := Lh (HW0.o.trans (hb1.mono HW0.o.size))
 clear hb1 HB0 HW0
 go_wp2_with fail
 refine (HS.o _ _ _).mono ?_
 rintro e w2 ⟨rfl, hb2⟩
 have hz2 := hb2.size
 rw [World.size_alloc] at hz2
 have HB2 := Lh ((HB1.o.alloc _).below hb2 (HB1.o.alloc _).lt)
 have HW2 := Lh ((HW1.o.alloc HW1.o.size _).trans (hb2.mono (Nat.le_trans HW1.o.size (by rw [World.size_alloc]; omega))))
 have HC0_2 : Hid (Blk w2 w1.heap.size 68 (insVals [stI 0 1])) := Lh ((Blk.new w1 68 (insVals [stI 0 1])).below hb2 (Blk.new w1 68 (insVals [stI 0 1])).lt)
 clear hb2 HB1 HW1
 go_wp2_with fail
 refine (HLd.o _ _ _).mono ?_
 rintro e w3 ⟨rfl, hb3⟩
 have hz3 := hb3.size
 rw [World.size_alloc] at hz3
 have HB3 := Lh ((HB2.o.alloc _).below hb3 (HB2.o.alloc _).lt)
 have HW3 := Lh ((HW2.o.alloc HW2.o.size _).trans (hb3.mono (Nat.le_trans HW2.o.size (by rw [World.size_alloc]; omega))))
 have HC0_3 := Lh ((HC0_2.o.alloc _).below hb3 (HC0_2.o.alloc _).lt)
 have HC1_3 : Hid (Blk w3 w2.heap.size 68 (insVals [stI 1 1])) := Lh ((Blk.new w2 68 (insVals [stI 1 1])).below hb3 (Blk.new w2 68 (insVals [stI 1 1])).lt)
 clear hb3 HB2 HW2 HC0_2
 go_wp2_with fail
 refine (HLd.o _ _ _).mono ?_
 rintro e w4 ⟨rfl, hb4⟩
 have hz4 := hb4.size
 have HB4 := Lh ((HB3.o).below hb4 (HB3.o).lt)
 have HW4 := Lh (HW3.o.trans (hb4.mono HW3.o.size))
 have HC0_4 := Lh ((HC0_3.o).below hb4 (HC0_3.o).lt)
 have HC1_4 := Lh ((HC1_3.o).below hb4 (HC1_3.o).lt)
 clear hb4 HB3 HW3 HC0_3 HC1_3
 go_wp2_with fail
 refine (HLd.o _ _ _).mono ?_
 rintro e w5 ⟨rfl, hb5⟩
 have hz5 := hb5.size
 rw [World.size_alloc] at hz5
 have HB5 := Lh ((HB4.o.alloc _).below hb5 (HB4.o.alloc _).lt)
 have HW5 := Lh ((HW4.o.alloc HW4.o.size _).trans (hb5.mono (Nat.le_trans HW4.o.size (by rw [World.size_alloc]; omega))))
 have HC0_5 := Lh ((HC0_4.o.alloc _).below hb5 (HC0_4.o.alloc _).lt)
 have HC1_5 := Lh ((HC1_4.o.alloc _).below hb5 (HC1_4.o.alloc _).lt)
 have HC2_5 : Hid (Blk w5 w4.heap.size 68 (insVals [ldI 0 0, ldI 1 1])) := Lh ((Blk.new w4 68 (insVals [ldI 0 0, ldI 1 1])).below hb5 (Blk.new w4 68 (insVals [ldI 0 0, ldI 1 1])).lt)
 clear hb5 HB4 HW4 HC0_4 HC1_4
 go_wp2_with fail
 refine (HLd.o _ _ _).mono ?_
 rintro e w6 ⟨rfl, hb6⟩
 have hz6 := hb6.size
 have HB6 := Lh ((HB5.o).below hb6 (HB5.o).lt)
 have HW6 := Lh (HW5.o.trans (hb6.mono HW5.o.size))
 have HC0_6 := Lh ((HC0_5.o).below hb6 (HC0_5.o).lt)
 have HC1_6 := Lh ((HC1_5.o).below hb6 (HC1_5.o).lt)
 have HC2_6 := Lh ((HC2_5.o).below hb6 (HC2_5.o).lt)
 clear hb6 HB5 HW5 HC0_5 HC1_5 HC2_5
 go_upto_region 24 with fail
 refine wp_name ?_
 intro V hV
 have HB9 : Hid (Blk V w.heap.size 25 [.slice none 0 0, .slice none 0 0]) := Lh (by rw [hV]; exact (HB6.o.alloc _).alloc _)
 have HT : Hid (Blk V (w6.heap.size + 1) 69 (List.map (fun c : Hd × List Ins => hdV c.1) [((some ⟨w1.heap.size, 0, none⟩, 1, 1), [stI 0 1]), ((some ⟨w2.heap.size, 0, none⟩, 1, 1), [stI 1 1]), ((some ⟨w4.heap.size, 0, none⟩, 2, 2), [ldI 0 0, ldI 1 1]), ((some ⟨w6.heap.size, 0, none⟩, 2, 2), [ldI 0 1, ldI 1 0])])) := Lh (by
  have h9 := Blk.new (w6.alloc (.cells (insVals [ldI 0 1, ldI 1 0]).toArray 68)) 69 (List.map (fun c : Hd × List Ins => hdV c.1) [((some ⟨w1.heap.size, 0, none⟩, 1, 1), [stI 0 1]), ((some ⟨w2.heap.size, 0, none⟩, 1, 1), [stI 1 1]), ((some ⟨w4.heap.size, 0, none⟩, 2, 2), [ldI 0 0, ldI 1 1]), ((some ⟨w6.heap.size, 0, none⟩, 2, 2), [ldI 0 1, ldI 1 0])])
  rw [World.size_alloc] at h9
  rw [hV]
  exact h9)
 have HVz : Hid (V.heap.size = w6.heap.size + 1 + 1) := Lh (by rw [hV, World.size_alloc, World.size_alloc])
 have HWd : Hid (Blk (V.alloc (.cells #[.int .i64 0, .int .i64 0] 3)) (w6.heap.size + 1 + 1) 3 (ints [0, 0])) := Lh (by
  have h9 := Blk.new V 3 (ints [0, 0])
  rw [HVz.o] at h9
  exact h9)
 have hVz : V.heap.size = w6.heap.size + 1 + 1 := HVz.o
 have HW9 : Hid (Below w.heap.size w V) := Lh (by rw [hV]; exact (HW6.o.alloc HW6.o.size _).alloc (by rw [World.size_alloc]; omega) _)
 have HD0 : Hid (Blk V w1.heap.size 68 (insVals [stI 0 1])) := Lh (by rw [hV]; exact (HC0_6.o.alloc _).alloc _)
 have HD1 : Hid (Blk V w2.heap.size 68 (insVals [stI 1 1])) := Lh (by rw [hV]; exact (HC1_6.o.alloc _).alloc _)
 have HD2 : Hid (Blk V w4.heap.size 68 (insVals [ldI 0 0, ldI 1 1])) := Lh (by rw [hV]; exact (HC2_6.o.alloc _).alloc _)
 have HD3 : Hid (Blk V w6.heap.size 68 (insVals [ldI 0 1, ldI 1 0])) := Lh (by rw [hV]; exact (Blk.new w6 68 (insVals [ldI 0 1, ldI 1 0])).alloc _)
 have c0 : (V.alloc (.cells #[.int .i64 0, .int .i64 0] 3)).cell? ⟨w.heap.size, 0, none⟩ = some (.slice none 0 0) := (HB9.o.alloc _).cell rfl
 have c1 : (V.alloc (.cells #[.int .i64 0, .int .i64 0] 3)).cell? ⟨w.heap.size, 1, none⟩ = some (.slice none 0 0) := (HB9.o.alloc _).cell rfl
 have f0 := (HB9.o.alloc (.cells #[.int .i64 0, .int .i64 0] 3)).frozen 0
 have f1 := (HB9.o.alloc (.cells #[.int .i64 0, .int .i64 0] 3)).frozen 1
 clear hV HB6 HW6
 go_wp2_with fail
 refine bodyPost_ret_by (results_cell_row2 rfl _ _ w.heap.size 25 #[.slice (some ⟨w6.heap.size + 1 + 1, 0, none⟩) 2 2, .slice (some ⟨w6.heap.size + 1, 0, none⟩) 4 4] (0, 0) _ rfl (((HB9.o.alloc _).set_ 0 _).set_ 1 _) Tryz.underlying25 rfl size_lit) rfl ?_
 refine ⟨⟨some ⟨w6.heap.size + 1 + 1, 0, none⟩, 2, 2, [0, 0], some ⟨w6.heap.size + 1, 0, none⟩, 4, 4, [((some ⟨w1.heap.size, 0, none⟩, 1, 1), [stI 0 1]), ((some ⟨w2.heap.size, 0, none⟩, 1, 1), [stI 1 1]), ((some ⟨w4.heap.size, 0, none⟩, 2, 2), [ldI 0 0, ldI 1 1]), ((some ⟨w6.heap.size, 0, none⟩, 2, 2), [ldI 0 1, ldI 1 0])]⟩, rfl, rfl, rfl, lit_of (ws := [0, 0]) (cs := [((some ⟨w1.heap.size, 0, none⟩, 1, 1), [stI 0 1]), ((some ⟨w2.heap.size, 0, none⟩, 1, 1), [stI 1 1]), ((some ⟨w4.heap.size, 0, none⟩, 2, 2), [ldI 0 0, ldI 1 1]), ((some ⟨w6.heap.size, 0, none⟩, 2, 2), [ldI 0 1, ldI 1 0])]) ((HWd.o.far (by simp; omega) _).far (by simp; omega) _) (((HT.o.alloc _).far (by simp; omega) _).far (by simp; omega) _) ⟨by simp, by simp⟩ ?_, ((HW9.o.alloc HW9.o.size _).setCell (Nat.le_refl _) _).setCell (Nat.le_refl _) _⟩
 intro c hc
 simp only [List.mem_cons, List.not_mem_nil, or_false] at hc
 rcases hc with rfl | rfl | rfl | rfl
 ·exact code_of (c := [stI 0 1]) (((HD0.o.alloc _).far (by simp; omega) _).far (by simp; omega) _) (by decide) (by decide)
 ·exact code_of (c := [stI 1 1]) (((HD1.o.alloc _).far (by simp; omega) _).far (by simp; omega) _) (by decide) (by decide)
 ·exact code_of (c := [ldI 0 0, ldI 1 1]) (((HD2.o.alloc _).far (by simp; omega) _).far (by simp; omega) _) (by decide) (by decide)
 ·exact code_of (c := [ldI 0 1, ldI 1 0]) (((HD3.o.alloc _).far (by simp; omega) _).far (by simp; omega) _) (by decide) (by decide)
theorem classic7 (w : World) : Calls Tryz.prog 15 #[.string ⟨#[83, 66, 43, 102, 101, 110, 99, 101]⟩] w (ClsR 7 w) := by
 have HS := Lh store_i
 have HLd := Lh load_i
 have HF := Lh fence_i
 have HB0 : Hid (Blk (w.alloc (.cells #[.slice none 0 0, .slice none 0 0] 25)) w.heap.size 25 [.slice none 0 0, .slice none 0 0]) := Lh (Blk.new _ _ _)
 have HW0 : Hid (Below w.heap.size w (w.alloc (.cells #[.slice none 0 0, .slice none 0 0] 25))) := Lh ((Below.refl _ _).alloc (Nat.le_refl _) _)
 go_enter Tryz.func15, Tryz.ntmps15
 go_upto_region 1 with fail
 generalize w.alloc (.cells #[.slice none 0 0, .slice none 0 0] 25) = w0 at HB0 HW0 ⊢
 have hz0 : w.heap.size < w0.heap.size := HB0.o.lt
 go_wp2_with fail
 refine (HS.o _ _ _).mono ?_
 rintro e w1 ⟨rfl, hb1⟩
 have hz1 := hb1.size
 have HB1 := Lh ((HB0.o).below hb1 (HB0.o).lt)
 have HW1 := Lh (HW0.o.trans (hb1.mono HW0.o.size))
 clear hb1 HB0 HW0
 go_wp2_with fail
 refine (HF.o _).mono ?_
 rintro e w2 ⟨rfl, hb2⟩
 have hz2 := hb2.size
 have HB2 := Lh ((HB1.o).below hb2 (HB1.o).lt)
 have HW2 := Lh (HW1.o.trans (hb2.mono HW1.o.size))
 clear hb2 HB1 HW1
 go_wp2_with fail
 refine (HLd.o _ _ _).mono ?_
 rintro e w3 ⟨rfl, hb3⟩
 have hz3 := hb3.size
 have HB3 := Lh ((HB2.o).below hb3 (HB2.o).lt)
 have HW3 := Lh (HW2.o.trans (hb3.mono HW2.o.size))
 clear hb3 HB2 HW2
 go_wp2_with fail
 refine (HS.o _ _ _).mono ?_
 rintro e w4 ⟨rfl, hb4⟩
 have hz4 := hb4.size
 rw [World.size_alloc] at hz4
 have HB4 := Lh ((HB3.o.alloc _).below hb4 (HB3.o.alloc _).lt)
 have HW4 := Lh ((HW3.o.alloc HW3.o.size _).trans (hb4.mono (Nat.le_trans HW3.o.size (by rw [World.size_alloc]; omega))))
 have HC0_4 : Hid (Blk w4 w3.heap.size 68 (insVals [stI 0 1, fnI, ldI 0 1])) := Lh ((Blk.new w3 68 (insVals [stI 0 1, fnI, ldI 0 1])).below hb4 (Blk.new w3 68 (insVals [stI 0 1, fnI, ldI 0 1])).lt)
 clear hb4 HB3 HW3
 go_wp2_with fail
 refine (HF.o _).mono ?_
 rintro e w5 ⟨rfl, hb5⟩
 have hz5 := hb5.size
 have HB5 := Lh ((HB4.o).below hb5 (HB4.o).lt)
 have HW5 := Lh (HW4.o.trans (hb5.mono HW4.o.size))
 have HC0_5 := Lh ((HC0_4.o).below hb5 (HC0_4.o).lt)
 clear hb5 HB4 HW4 HC0_4
 go_wp2_with fail
 refine (HLd.o _ _ _).mono ?_
 rintro e w6 ⟨rfl, hb6⟩
 have hz6 := hb6.size
 have HB6 := Lh ((HB5.o).below hb6 (HB5.o).lt)
 have HW6 := Lh (HW5.o.trans (hb6.mono HW5.o.size))
 have HC0_6 := Lh ((HC0_5.o).below hb6 (HC0_5.o).lt)
 clear hb6 HB5 HW5 HC0_5
 go_upto_region 24 with fail
 refine wp_name ?_
 intro V hV
 have HB9 : Hid (Blk V w.heap.size 25 [.slice none 0 0, .slice none 0 0]) := Lh (by rw [hV]; exact (HB6.o.alloc _).alloc _)
 have HT : Hid (Blk V (w6.heap.size + 1) 69 (List.map (fun c : Hd × List Ins => hdV c.1) [((some ⟨w3.heap.size, 0, none⟩, 3, 3), [stI 0 1, fnI, ldI 0 1]), ((some ⟨w6.heap.size, 0, none⟩, 3, 3), [stI 1 1, fnI, ldI 0 0])])) := Lh (by
  have h9 := Blk.new (w6.alloc (.cells (insVals [stI 1 1, fnI, ldI 0 0]).toArray 68)) 69 (List.map (fun c : Hd × List Ins => hdV c.1) [((some ⟨w3.heap.size, 0, none⟩, 3, 3), [stI 0 1, fnI, ldI 0 1]), ((some ⟨w6.heap.size, 0, none⟩, 3, 3), [stI 1 1, fnI, ldI 0 0])])
  rw [World.size_alloc] at h9
  rw [hV]
  exact h9)
 have HVz : Hid (V.heap.size = w6.heap.size + 1 + 1) := Lh (by rw [hV, World.size_alloc, World.size_alloc])
 have HWd : Hid (Blk (V.alloc (.cells #[.int .i64 0, .int .i64 0] 3)) (w6.heap.size + 1 + 1) 3 (ints [0, 0])) := Lh (by
  have h9 := Blk.new V 3 (ints [0, 0])
  rw [HVz.o] at h9
  exact h9)
 have hVz : V.heap.size = w6.heap.size + 1 + 1 := HVz.o
 have HW9 : Hid (Below w.heap.size w V) := Lh (by rw [hV]; exact (HW6.o.alloc HW6.o.size _).alloc (by rw [World.size_alloc]; omega) _)
 have HD0 : Hid (Blk V w3.heap.size 68 (insVals [stI 0 1, fnI, ldI 0 1])) := Lh (by rw [hV]; exact (HC0_6.o.alloc _).alloc _)
 have HD1 : Hid (Blk V w6.heap.size 68 (insVals [stI 1 1, fnI, ldI 0 0])) := Lh (by rw [hV]; exact (Blk.new w6 68 (insVals [stI 1 1, fnI, ldI 0 0])).alloc _)
 have c0 : (V.alloc (.cells #[.int .i64 0, .int .i64 0] 3)).cell? ⟨w.heap.size, 0, none⟩ = some (.slice none 0 0) := (HB9.o.alloc _).cell rfl
 have c1 : (V.alloc (.cells #[.int .i64 0, .int .i64 0] 3)).cell? ⟨w.heap.size, 1, none⟩ = some (.slice none 0 0) := (HB9.o.alloc _).cell rfl
 have f0 := (HB9.o.alloc (.cells #[.int .i64 0, .int .i64 0] 3)).frozen 0
 have f1 := (HB9.o.alloc (.cells #[.int .i64 0, .int .i64 0] 3)).frozen 1
 clear hV HB6 HW6
 go_wp2_with fail
 refine bodyPost_ret_by (results_cell_row2 rfl _ _ w.heap.size 25 #[.slice (some ⟨w6.heap.size + 1 + 1, 0, none⟩) 2 2, .slice (some ⟨w6.heap.size + 1, 0, none⟩) 2 2] (0, 0) _ rfl (((HB9.o.alloc _).set_ 0 _).set_ 1 _) Tryz.underlying25 rfl size_lit) rfl ?_
 refine ⟨⟨some ⟨w6.heap.size + 1 + 1, 0, none⟩, 2, 2, [0, 0], some ⟨w6.heap.size + 1, 0, none⟩, 2, 2, [((some ⟨w3.heap.size, 0, none⟩, 3, 3), [stI 0 1, fnI, ldI 0 1]), ((some ⟨w6.heap.size, 0, none⟩, 3, 3), [stI 1 1, fnI, ldI 0 0])]⟩, rfl, rfl, rfl, lit_of (ws := [0, 0]) (cs := [((some ⟨w3.heap.size, 0, none⟩, 3, 3), [stI 0 1, fnI, ldI 0 1]), ((some ⟨w6.heap.size, 0, none⟩, 3, 3), [stI 1 1, fnI, ldI 0 0])]) ((HWd.o.far (by simp; omega) _).far (by simp; omega) _) (((HT.o.alloc _).far (by simp; omega) _).far (by simp; omega) _) ⟨by simp, by simp⟩ ?_, ((HW9.o.alloc HW9.o.size _).setCell (Nat.le_refl _) _).setCell (Nat.le_refl _) _⟩
 intro c hc
 simp only [List.mem_cons, List.not_mem_nil, or_false] at hc
 rcases hc with rfl | rfl
 ·exact code_of (c := [stI 0 1, fnI, ldI 0 1]) (((HD0.o.alloc _).far (by simp; omega) _).far (by simp; omega) _) (by decide) (by decide)
 ·exact code_of (c := [stI 1 1, fnI, ldI 0 0]) (((HD1.o.alloc _).far (by simp; omega) _).far (by simp; omega) _) (by decide) (by decide)
end Go.Proofs.YtgjdgapfnfhklaaGreat
