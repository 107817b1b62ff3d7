/-
  machine.Run: all that came of it.
-/
import Derived.Test.YtjnmlgfkiebkgaaLrl
namespace Go.Proofs.Ytjnmlgfkiebkgaa
open Go.RowKit Go.Shelf
set_option linter.unusedVariables false
set_option linter.unusedSimpArgs false
attribute [local go_sem] Oper.semAt_some

/-- a post that no panic meets -/
def NoP (Q : Exit → Act → World → Prop) : Exit → Act → World → Prop
  | .panic _, _, _ => False
  | e, a, w => Q e a w
theorem NoP.to {Q : Exit → Act → World → Prop} {e : Exit} {a : Act} {w : World} (h : NoP Q e a w) : Q e a w := by
  cases e <;> first | exact h | exact h.elim
theorem own_low9 {w : World} {base base' : Nat} {e : TypeId} {size n : Nat} {v : Value} {xs : List Value} (h : w.ownsRow base e size v n xs) (hb : base' ≤ base) : w.ownsRow base' e size v n xs := ⟨h.1, h.2.imp id fun ⟨g, cap, cur, e1, h1, h2⟩ => ⟨g, cap, cur, e1, Nat.le_trans hb h1, h2⟩⟩
theorem size_run : (Try.prog.info? 39).map (·.size) = some 4 := by kernel_rfl
theorem cell_seven (W : World) (a : Ac) : ∀ j u, (acL a)[j]? = some u → (W.alloc (.cells (acL a).toArray 66)).cell? (Addr.add ⟨W.heap.size, 0, none⟩ j) = some u := by
  intro j u hu
  have h := (Blk.new W 66 (acL a)).cell hu
  unfold Addr.add
  split
  · rename_i hj; subst hj; exact h
  · simpa using h
/-- what a machine has come to, in new memory -/
def RunR (m : Mc) (W : World) (e : Ending) (w' : World) : Prop :=
  ∃ Ac kc At kt Aw kw, e = .returned (.agg #[.slice Ac m.calls.length kc, .slice At m.log.length kt, .slice none 0 0, .slice Aw m.words.length kw]) ∧
    w'.ownsRow W.heap.size 62 9 (.slice Ac m.calls.length kc) m.calls.length (calVals m.calls) ∧ w'.ownsRow W.heap.size 66 7 (.slice At m.log.length kt) m.log.length (acVals m.log) ∧
    w'.ownsRow W.heap.size 34 1 (.slice Aw m.words.length kw) m.words.length (u64s m.words) ∧ Below W.heap.size W w'
set_option maxRecDepth 100000 in
set_option maxHeartbeats 4000000 in
theorem run_any {W : World} {B : Nat} {M : ML} {m : Mc} (H : MM W B M m) (hlim : m.log.length ≤ 100000 ∧ m.calls.length ≤ 100000 ∧ m.words.length ≤ 8192) :
    Calls Try.prog 30 #[.pointer (some ⟨M.x, 0, none⟩)] W (RunR m W) := by
  obtain ⟨ia, hia, hiaz, hias, hiab⟩ := info_parts info_ac
  obtain ⟨th0, now0, us0, hx⟩ := H.xb
  obtain ⟨nw0, hy⟩ := H.yb
  have hn0 : ((m.ths.length : Int) == 0) = false := beq_eq_false_iff_ne.2 (by have := H.nt.1; omega)
  have x0 : W.cell? ⟨M.x, 0, none⟩ = some (.pointer (some ⟨M.y, 0, none⟩)) := hx.cell rfl
  have x6 : W.cell? ⟨M.x, 6, none⟩ = some (.slice none 0 0) := hx.cell rfl
  have x8 : W.cell? ⟨M.x, 8, none⟩ = some (.slice (some ⟨M.sg, 0, none⟩) m.ths.length M.sk) := hx.cell rfl
  have x10 : W.cell? ⟨M.x, 10, none⟩ = some M.vc := hx.cell rfl
  have y0 : W.cell? ⟨M.y, 0, none⟩ = some (.slice (some ⟨M.wb, 0, none⟩) m.words.length M.wk) := hy.cell rfl
  have lx := hx.lt
  have ly := hy.lt
  have HM := Lib.hid H
  have HX := Lib.hid hx
  have HY := Lib.hid hy
  clear H hx hy
  refine (callsIn_wide (n := 9)).1 ?_
  refine callsIn_of_wp_marks Try.func30 rfl trivial ?_ rfl
  refine wpIn_wide.2 ?_
  refine wp_mono (Q := NoP (bodyPostM Fence.wide 9 Try.prog Try.f30 (RunR m W))) ?_ (fun _ _ _ h => h.to)
  simp only [Try.ntmps30, List.size_toArray, List.length_cons, List.length_nil, Nat.reduceAdd, Nat.reduceSub, Array.replicate_succ, Array.replicate_zero, List.push_toArray, List.append_toArray, List.nil_append, List.cons_append]
  go_upto_region 3 with fail
  have HM0 := Lib.hid (HM.out.on (W' := (W.alloc (.cells #[.slice none 0 0, .slice none 0 0, .slice none 0 0, .slice none 0 0] 39)).drew) ((Below.refl _ _).alloc (Nat.le_refl _) _).drew)
  have HR0 : Hid (Blk (W.alloc (.cells #[.slice none 0 0, .slice none 0 0, .slice none 0 0, .slice none 0 0] 39)).drew W.heap.size 39 [.slice none 0 0, .slice none 0 0, .slice none 0 0, .slice none 0 0]) := Blk.new W 39 [.slice none 0 0, .slice none 0 0, .slice none 0 0, .slice none 0 0]
  have HBW : Hid (Below W.heap.size W (W.alloc (.cells #[.slice none 0 0, .slice none 0 0, .slice none 0 0, .slice none 0 0] 39)).drew) := ((Below.refl _ _).alloc (Nat.le_refl _) _).drew
  have HX0 := Lib.hid (HX.out.below HBW.out lx)
  have HY0 := Lib.hid (HY.out.below HBW.out ly)
  refine wp_region_held_drew (S := fun W5 => W5.cell? ⟨M.x, 10, none⟩ = some M.vc ∧ W5.cell? ⟨M.x, 6, none⟩ = some (.slice none 0 0) ∧ W5.cell? ⟨M.x, 0, none⟩ = some (.pointer (some ⟨M.y, 0, none⟩))) (by kernel_rfl) ⟨HX0.out.cell rfl, HX0.out.cell rfl, HX0.out.cell rfl⟩ (fun hS => ?_)
  generalize (W.alloc (.cells #[.slice none 0 0, .slice none 0 0, .slice none 0 0, .slice none 0 0] 39)).drew = V0 at HM0 HR0 HBW HX0 HY0 hS ⊢
  have HB0 : Hid (Below V0.heap.size V0 V0) := Below.refl _ _
  clear x0 x6 x8 x10 y0
  iterate 4 (refine tkF 0 (v := ?_) ?_ ?_; rotate_left; · (intro W hSw; (try dsimp only at hSw); go_simp; try with_reducible rfl); try simp only [Act.put, List.setIfInBounds_toArray, List.set_cons_zero, List.set_cons_succ])
  iterate 5 (refine tkF 5 (v := ?_) ?_ ?_; rotate_left; · (intro W hSw; (try dsimp only at hSw); go_simp; try with_reducible rfl); try simp only [Act.put, List.setIfInBounds_toArray, List.set_cons_zero, List.set_cons_succ])
  iterate 5 (refine tkF 11 (v := ?_) ?_ ?_; rotate_left; · (intro W hSw; (try dsimp only at hSw); go_simp; try with_reducible rfl); try simp only [Act.put, List.setIfInBounds_toArray, List.set_cons_zero, List.set_cons_succ])
  refine rd2 4 18 (fun K1 hK1 => ?pa1) (fun K1 hK1 => ?pb1)
  case' pa1 =>
    go_simp
    go_at_call 50
    refine (cac_own m.calls V0 HM0.out.ca hlim.2.1).mono ?_
    rintro e V1 ⟨Aq, kc, rfl, hc1, hb1⟩
    have HC1 : Hid (V1.ownsRow V0.heap.size 62 9 (.slice Aq m.calls.length kc) m.calls.length (calVals m.calls)) := own_low9 hc1 HB0.out.size
    have HX1 := Lib.hid (HX0.out.below hb1 HX0.out.lt)
    have HM1 := Lib.hid (HM0.out.on hb1)
    have HB1 := Lib.hid (HB0.out.trans (hb1.mono HB0.out.size))
    have HY1 := Lib.hid (HY0.out.below hb1 HY0.out.lt)
    have HR1 := Lib.hid (HR0.out.below hb1 HR0.out.lt)
    refine hK1.out _ _ ⟨HX1.out.cell rfl, HX1.out.cell rfl, HX1.out.cell rfl⟩ (fun _ => ?_)
    clear hb1 hc1
    refine rd2 10 18 (fun K2 hK2 => ?pa2) (fun K2 hK2 => ?pb2)
    case' pa2 =>
      go_simp
      go_at_call 51
      refine (cas_nil V1).mono ?_
      rintro e V99 ⟨rfl, hV99⟩
      rw [hV99]
      clear hV99 V99
      refine hK2.out _ _ ⟨HX1.out.cell rfl, HX1.out.cell rfl, HX1.out.cell rfl⟩ (fun _ => ?_)
      refine rd2 16 18 (fun K3 hK3 => ?pa3) (fun K3 hK3 => ?pb3)
      case' pa3 =>
        go_simp
        go_at_call 52
        refine (mwords_any m.words V1 (HY1.out.cell rfl) HM1.out.wr hlim.2.2).mono ?_
        rintro e V2 ⟨Aw, kw, rfl, hw2, hb2⟩
        have HW2 : Hid (V2.ownsRow V0.heap.size 34 1 (.slice Aw m.words.length kw) m.words.length (u64s m.words)) := own_low9 hw2 HB1.out.size
        have HX2 := Lib.hid (HX1.out.below hb2 HX1.out.lt)
        have HM2 := Lib.hid (HM1.out.on hb2)
        have HB2 := Lib.hid (HB1.out.trans (hb2.mono HB1.out.size))
        have HY2 := Lib.hid (HY1.out.below hb2 HY1.out.lt)
        have HR2 := Lib.hid (HR1.out.below hb2 HR1.out.lt)
        have HC2 := Lib.hid (HC1.out.below hb2)
        refine hK3.out _ _ ⟨HX2.out.cell rfl, HX2.out.cell rfl, HX2.out.cell rfl⟩ (fun _ => ?_)
        clear hb2 hw2
        have hSf : V2.cell? ⟨M.x, 10, none⟩ = some M.vc ∧ V2.cell? ⟨M.x, 6, none⟩ = some (.slice none 0 0) ∧ V2.cell? ⟨M.x, 0, none⟩ = some (.pointer (some ⟨M.y, 0, none⟩)) := ⟨HX2.out.cell rfl, HX2.out.cell rfl, HX2.out.cell rfl⟩
        iterate 1 (refine tkF 17 (v := ?_) ?_ ?_; rotate_left; · (intro W hSw; (try dsimp only at hSw); go_simp; try with_reducible rfl); try simp only [Act.put, List.setIfInBounds_toArray, List.set_cons_zero, List.set_cons_succ])
        refine rd 18 fun K4 hK4 => ?_
        go_simp
        obtain ⟨V3, hV3⟩ : ∃ V, V = V2.alloc (.cells #[.slice none 0 0, .slice none 0 0, .slice none 0 0, .slice none 0 0] 39) := ⟨_, rfl⟩
        have hb3 : Below V2.heap.size V2 V3 := by rw [hV3]; exact (Below.refl _ _).alloc (Nat.le_refl _) _
        have HQ3 : Hid (Blk V3 V2.heap.size 39 [.slice none 0 0, .slice none 0 0, .slice none 0 0, .slice none 0 0]) := by rw [hV3]; exact Blk.new _ _ _
        have hq3 : V0.heap.size ≤ V2.heap.size := HB2.out.size
        rw [← hV3]
        clear hV3
        have HX3 := Lib.hid (HX2.out.below hb3 HX2.out.lt)
        have HM3 := Lib.hid (HM2.out.on hb3)
        have HB3 := Lib.hid (HB2.out.trans (hb3.mono HB2.out.size))
        have HY3 := Lib.hid (HY2.out.below hb3 HY2.out.lt)
        have HR3 := Lib.hid (HR2.out.below hb3 HR2.out.lt)
        have HC3 := Lib.hid (HC2.out.below hb3)
        have HW3 := Lib.hid (HW2.out.below hb3)
        refine hK4.out _ _ ⟨HX3.out.cell rfl, HX3.out.cell rfl, HX3.out.cell rfl⟩ (fun _ => ?_)
        clear hb3
        obtain ⟨qf, hqe⟩ : ∃ qf, qf = V2.heap.size := ⟨_, rfl⟩
        have HQf : Hid (Blk V3 qf 39 [.slice none 0 0, .slice none 0 0, .slice none 0 0, .slice none 0 0]) := by rw [hqe]; exact HQ3.out
        have hqf : V0.heap.size ≤ qf := by rw [hqe]; exact hq3
        rw [← hqe]
        clear hqe HQ3 hq3
      case' pb3 =>
        go_simp
        obtain ⟨V2, hV2⟩ : ∃ V, V = V1.alloc (.cells #[.slice none 0 0, .slice none 0 0, .slice none 0 0, .slice none 0 0] 39) := ⟨_, rfl⟩
        have hb2 : Below V1.heap.size V1 V2 := by rw [hV2]; exact (Below.refl _ _).alloc (Nat.le_refl _) _
        have HQ2 : Hid (Blk V2 V1.heap.size 39 [.slice none 0 0, .slice none 0 0, .slice none 0 0, .slice none 0 0]) := by rw [hV2]; exact Blk.new _ _ _
        have hq2 : V0.heap.size ≤ V1.heap.size := HB1.out.size
        rw [← hV2]
        clear hV2
        have HX2 := Lib.hid (HX1.out.below hb2 HX1.out.lt)
        have HM2 := Lib.hid (HM1.out.on hb2)
        have HB2 := Lib.hid (HB1.out.trans (hb2.mono HB1.out.size))
        have HY2 := Lib.hid (HY1.out.below hb2 HY1.out.lt)
        have HR2 := Lib.hid (HR1.out.below hb2 HR1.out.lt)
        have HC2 := Lib.hid (HC1.out.below hb2)
        refine hK3.out _ _ ⟨HX2.out.cell rfl, HX2.out.cell rfl, HX2.out.cell rfl⟩ (fun _ => ?_)
        clear hb2
        refine rd 16 fun K4 hK4 => ?_
        go_simp
        go_at_call 52
        refine (mwords_any m.words V2 (HY2.out.cell rfl) HM2.out.wr hlim.2.2).mono ?_
        rintro e V3 ⟨Aw, kw, rfl, hw3, hb3⟩
        have HW3 : Hid (V3.ownsRow V0.heap.size 34 1 (.slice Aw m.words.length kw) m.words.length (u64s m.words)) := own_low9 hw3 HB2.out.size
        have HX3 := Lib.hid (HX2.out.below hb3 HX2.out.lt)
        have HM3 := Lib.hid (HM2.out.on hb3)
        have HB3 := Lib.hid (HB2.out.trans (hb3.mono HB2.out.size))
        have HY3 := Lib.hid (HY2.out.below hb3 HY2.out.lt)
        have HR3 := Lib.hid (HR2.out.below hb3 HR2.out.lt)
        have HC3 := Lib.hid (HC2.out.below hb3)
        have HQ3 := Lib.hid (HQ2.out.below hb3 HQ2.out.lt)
        have hq3 := hq2
        refine hK4.out _ _ ⟨HX3.out.cell rfl, HX3.out.cell rfl, HX3.out.cell rfl⟩ (fun _ => ?_)
        clear hb3 hw3
        have hSf : V3.cell? ⟨M.x, 10, none⟩ = some M.vc ∧ V3.cell? ⟨M.x, 6, none⟩ = some (.slice none 0 0) ∧ V3.cell? ⟨M.x, 0, none⟩ = some (.pointer (some ⟨M.y, 0, none⟩)) := ⟨HX3.out.cell rfl, HX3.out.cell rfl, HX3.out.cell rfl⟩
        iterate 1 (refine tkF 17 (v := ?_) ?_ ?_; rotate_left; · (intro W hSw; (try dsimp only at hSw); go_simp; try with_reducible rfl); try simp only [Act.put, List.setIfInBounds_toArray, List.set_cons_zero, List.set_cons_succ])
        obtain ⟨qf, hqe⟩ : ∃ qf, qf = V1.heap.size := ⟨_, rfl⟩
        have HQf : Hid (Blk V3 qf 39 [.slice none 0 0, .slice none 0 0, .slice none 0 0, .slice none 0 0]) := by rw [hqe]; exact HQ3.out
        have hqf : V0.heap.size ≤ qf := by rw [hqe]; exact hq3
        rw [← hqe]
        clear hqe HQ3 hq3
    case' pb2 =>
      go_simp
      obtain ⟨V2, hV2⟩ : ∃ V, V = V1.alloc (.cells #[.slice none 0 0, .slice none 0 0, .slice none 0 0, .slice none 0 0] 39) := ⟨_, rfl⟩
      have hb2 : Below V1.heap.size V1 V2 := by rw [hV2]; exact (Below.refl _ _).alloc (Nat.le_refl _) _
      have HQ2 : Hid (Blk V2 V1.heap.size 39 [.slice none 0 0, .slice none 0 0, .slice none 0 0, .slice none 0 0]) := by rw [hV2]; exact Blk.new _ _ _
      have hq2 : V0.heap.size ≤ V1.heap.size := HB1.out.size
      rw [← hV2]
      clear hV2
      have HX2 := Lib.hid (HX1.out.below hb2 HX1.out.lt)
      have HM2 := Lib.hid (HM1.out.on hb2)
      have HB2 := Lib.hid (HB1.out.trans (hb2.mono HB1.out.size))
      have HY2 := Lib.hid (HY1.out.below hb2 HY1.out.lt)
      have HR2 := Lib.hid (HR1.out.below hb2 HR1.out.lt)
      have HC2 := Lib.hid (HC1.out.below hb2)
      refine hK2.out _ _ ⟨HX2.out.cell rfl, HX2.out.cell rfl, HX2.out.cell rfl⟩ (fun _ => ?_)
      clear hb2
      refine rd 10 fun K3 hK3 => ?_
      go_simp
      go_at_call 51
      refine (cas_nil V2).mono ?_
      rintro e V99 ⟨rfl, hV99⟩
      rw [hV99]
      clear hV99 V99
      refine hK3.out _ _ ⟨HX2.out.cell rfl, HX2.out.cell rfl, HX2.out.cell rfl⟩ (fun _ => ?_)
      refine rd 16 fun K4 hK4 => ?_
      go_simp
      go_at_call 52
      refine (mwords_any m.words V2 (HY2.out.cell rfl) HM2.out.wr hlim.2.2).mono ?_
      rintro e V3 ⟨Aw, kw, rfl, hw3, hb3⟩
      have HW3 : Hid (V3.ownsRow V0.heap.size 34 1 (.slice Aw m.words.length kw) m.words.length (u64s m.words)) := own_low9 hw3 HB2.out.size
      have HX3 := Lib.hid (HX2.out.below hb3 HX2.out.lt)
      have HM3 := Lib.hid (HM2.out.on hb3)
      have HB3 := Lib.hid (HB2.out.trans (hb3.mono HB2.out.size))
      have HY3 := Lib.hid (HY2.out.below hb3 HY2.out.lt)
      have HR3 := Lib.hid (HR2.out.below hb3 HR2.out.lt)
      have HC3 := Lib.hid (HC2.out.below hb3)
      have HQ3 := Lib.hid (HQ2.out.below hb3 HQ2.out.lt)
      have hq3 := hq2
      refine hK4.out _ _ ⟨HX3.out.cell rfl, HX3.out.cell rfl, HX3.out.cell rfl⟩ (fun _ => ?_)
      clear hb3 hw3
      have hSf : V3.cell? ⟨M.x, 10, none⟩ = some M.vc ∧ V3.cell? ⟨M.x, 6, none⟩ = some (.slice none 0 0) ∧ V3.cell? ⟨M.x, 0, none⟩ = some (.pointer (some ⟨M.y, 0, none⟩)) := ⟨HX3.out.cell rfl, HX3.out.cell rfl, HX3.out.cell rfl⟩
      iterate 1 (refine tkF 17 (v := ?_) ?_ ?_; rotate_left; · (intro W hSw; (try dsimp only at hSw); go_simp; try with_reducible rfl); try simp only [Act.put, List.setIfInBounds_toArray, List.set_cons_zero, List.set_cons_succ])
      obtain ⟨qf, hqe⟩ : ∃ qf, qf = V1.heap.size := ⟨_, rfl⟩
      have HQf : Hid (Blk V3 qf 39 [.slice none 0 0, .slice none 0 0, .slice none 0 0, .slice none 0 0]) := by rw [hqe]; exact HQ3.out
      have hqf : V0.heap.size ≤ qf := by rw [hqe]; exact hq3
      rw [← hqe]
      clear hqe HQ3 hq3
  case' pb1 =>
    go_simp
    obtain ⟨V1, hV1⟩ : ∃ V, V = V0.alloc (.cells #[.slice none 0 0, .slice none 0 0, .slice none 0 0, .slice none 0 0] 39) := ⟨_, rfl⟩
    have hb1 : Below V0.heap.size V0 V1 := by rw [hV1]; exact (Below.refl _ _).alloc (Nat.le_refl _) _
    have HQ1 : Hid (Blk V1 V0.heap.size 39 [.slice none 0 0, .slice none 0 0, .slice none 0 0, .slice none 0 0]) := by rw [hV1]; exact Blk.new _ _ _
    have hq1 : V0.heap.size ≤ V0.heap.size := HB0.out.size
    rw [← hV1]
    clear hV1
    have HX1 := Lib.hid (HX0.out.below hb1 HX0.out.lt)
    have HM1 := Lib.hid (HM0.out.on hb1)
    have HB1 := Lib.hid (HB0.out.trans (hb1.mono HB0.out.size))
    have HY1 := Lib.hid (HY0.out.below hb1 HY0.out.lt)
    have HR1 := Lib.hid (HR0.out.below hb1 HR0.out.lt)
    refine hK1.out _ _ ⟨HX1.out.cell rfl, HX1.out.cell rfl, HX1.out.cell rfl⟩ (fun _ => ?_)
    clear hb1
    refine rd 4 fun K2 hK2 => ?_
    go_simp
    go_at_call 50
    refine (cac_own m.calls V1 HM1.out.ca hlim.2.1).mono ?_
    rintro e V2 ⟨Aq, kc, rfl, hc2, hb2⟩
    have HC2 : Hid (V2.ownsRow V0.heap.size 62 9 (.slice Aq m.calls.length kc) m.calls.length (calVals m.calls)) := own_low9 hc2 HB1.out.size
    have HX2 := Lib.hid (HX1.out.below hb2 HX1.out.lt)
    have HM2 := Lib.hid (HM1.out.on hb2)
    have HB2 := Lib.hid (HB1.out.trans (hb2.mono HB1.out.size))
    have HY2 := Lib.hid (HY1.out.below hb2 HY1.out.lt)
    have HR2 := Lib.hid (HR1.out.below hb2 HR1.out.lt)
    have HQ2 := Lib.hid (HQ1.out.below hb2 HQ1.out.lt)
    have hq2 := hq1
    refine hK2.out _ _ ⟨HX2.out.cell rfl, HX2.out.cell rfl, HX2.out.cell rfl⟩ (fun _ => ?_)
    clear hb2 hc2
    refine rd 10 fun K3 hK3 => ?_
    go_simp
    go_at_call 51
    refine (cas_nil V2).mono ?_
    rintro e V99 ⟨rfl, hV99⟩
    rw [hV99]
    clear hV99 V99
    refine hK3.out _ _ ⟨HX2.out.cell rfl, HX2.out.cell rfl, HX2.out.cell rfl⟩ (fun _ => ?_)
    refine rd 16 fun K4 hK4 => ?_
    go_simp
    go_at_call 52
    refine (mwords_any m.words V2 (HY2.out.cell rfl) HM2.out.wr hlim.2.2).mono ?_
    rintro e V3 ⟨Aw, kw, rfl, hw3, hb3⟩
    have HW3 : Hid (V3.ownsRow V0.heap.size 34 1 (.slice Aw m.words.length kw) m.words.length (u64s m.words)) := own_low9 hw3 HB2.out.size
    have HX3 := Lib.hid (HX2.out.below hb3 HX2.out.lt)
    have HM3 := Lib.hid (HM2.out.on hb3)
    have HB3 := Lib.hid (HB2.out.trans (hb3.mono HB2.out.size))
    have HY3 := Lib.hid (HY2.out.below hb3 HY2.out.lt)
    have HR3 := Lib.hid (HR2.out.below hb3 HR2.out.lt)
    have HC3 := Lib.hid (HC2.out.below hb3)
    have HQ3 := Lib.hid (HQ2.out.below hb3 HQ2.out.lt)
    have hq3 := hq2
    refine hK4.out _ _ ⟨HX3.out.cell rfl, HX3.out.cell rfl, HX3.out.cell rfl⟩ (fun _ => ?_)
    clear hb3 hw3
    have hSf : V3.cell? ⟨M.x, 10, none⟩ = some M.vc ∧ V3.cell? ⟨M.x, 6, none⟩ = some (.slice none 0 0) ∧ V3.cell? ⟨M.x, 0, none⟩ = some (.pointer (some ⟨M.y, 0, none⟩)) := ⟨HX3.out.cell rfl, HX3.out.cell rfl, HX3.out.cell rfl⟩
    iterate 1 (refine tkF 17 (v := ?_) ?_ ?_; rotate_left; · (intro W hSw; (try dsimp only at hSw); go_simp; try with_reducible rfl); try simp only [Act.put, List.setIfInBounds_toArray, List.set_cons_zero, List.set_cons_succ])
    obtain ⟨qf, hqe⟩ : ∃ qf, qf = V0.heap.size := ⟨_, rfl⟩
    have HQf : Hid (Blk V3 qf 39 [.slice none 0 0, .slice none 0 0, .slice none 0 0, .slice none 0 0]) := by rw [hqe]; exact HQ3.out
    have hqf : V0.heap.size ≤ qf := by rw [hqe]; exact hq3
    rw [← hqe]
    clear hqe HQ3 hq3
  all_goals (
    have hQf0 := HQf.out
    have fq0 := hQf0.frozen 0
    have fq1 := hQf0.frozen 1
    have fq2 := hQf0.frozen 2
    have fq3 := hQf0.frozen 3
    have z0 : V3.cell? ⟨qf, 0, none⟩ = some (.slice none 0 0) := hQf0.cell rfl
    have z1 : V3.cell? ⟨qf, 1, none⟩ = some (.slice none 0 0) := hQf0.cell rfl
    have z2 : V3.cell? ⟨qf, 2, none⟩ = some (.slice none 0 0) := hQf0.cell rfl
    have z3 : V3.cell? ⟨qf, 3, none⟩ = some (.slice none 0 0) := hQf0.cell rfl
    refine rd 19 fun K9 hK9 => ?_
    go_simp
    have hxq := hQf0.blk_ne HX3.out (by decide)
    have hxs : Blk ((((V3.setCell ⟨qf, 0, none⟩ (.slice Aq m.calls.length kc)).setCell ⟨qf, 1, none⟩ (.slice none 0 0)).setCell ⟨qf, 2, none⟩ (.slice none 0 0)).setCell ⟨qf, 3, none⟩ (.slice Aw m.words.length kw)) M.x 126 _ := (((HX3.out.far hxq.symm _).far hxq.symm _).far hxq.symm _).far hxq.symm _
    refine hK9.out _ _ ⟨hxs.cell rfl, hxs.cell rfl, hxs.cell rfl⟩ (fun _ => ?_)
    clear hxs
    refine wpAnyH_done (by kernel_rfl) ?_ _
    have hb4 : Below V0.heap.size V0 ((((V3.setCell ⟨qf, 0, none⟩ (.slice Aq m.calls.length kc)).setCell ⟨qf, 1, none⟩ (.slice none 0 0)).setCell ⟨qf, 2, none⟩ (.slice none 0 0)).setCell ⟨qf, 3, none⟩ (.slice Aw m.words.length kw)) := (((HB3.out.setCell hqf _).setCell hqf _).setCell hqf _).setCell hqf _
    have hq4 : Blk ((((V3.setCell ⟨qf, 0, none⟩ (.slice Aq m.calls.length kc)).setCell ⟨qf, 1, none⟩ (.slice none 0 0)).setCell ⟨qf, 2, none⟩ (.slice none 0 0)).setCell ⟨qf, 3, none⟩ (.slice Aw m.words.length kw)) qf 39 [.slice Aq m.calls.length kc, .slice none 0 0, .slice none 0 0, .slice Aw m.words.length kw] := (((HQf.out.set_ 0 (.slice Aq m.calls.length kc)).set_ 1 (.slice none 0 0)).set_ 2 (.slice none 0 0)).set_ 3 (.slice Aw m.words.length kw)
    have nc := own_blk_ne HC3.out HQf.out (by decide)
    have nw := own_blk_ne HW3.out HQf.out (by decide)
    have hc4 := own_setf (own_setf (own_setf (own_setf HC3.out (p := ⟨qf, 0, none⟩) nc (.slice Aq m.calls.length kc)) (p := ⟨qf, 1, none⟩) nc (.slice none 0 0)) (p := ⟨qf, 2, none⟩) nc (.slice none 0 0)) (p := ⟨qf, 3, none⟩) nc (.slice Aw m.words.length kw)
    have hw4 := own_setf (own_setf (own_setf (own_setf HW3.out (p := ⟨qf, 0, none⟩) nw (.slice Aq m.calls.length kc)) (p := ⟨qf, 1, none⟩) nw (.slice none 0 0)) (p := ⟨qf, 2, none⟩) nw (.slice none 0 0)) (p := ⟨qf, 3, none⟩) nw (.slice Aw m.words.length kw)
    generalize (((V3.setCell ⟨qf, 0, none⟩ (.slice Aq m.calls.length kc)).setCell ⟨qf, 1, none⟩ (.slice none 0 0)).setCell ⟨qf, 2, none⟩ (.slice none 0 0)).setCell ⟨qf, 3, none⟩ (.slice Aw m.words.length kw) = V4 at hb4 hq4 hc4 hw4 ⊢
    have HM4 := Lib.hid (HM0.out.on hb4)
    have HX4 := Lib.hid (HX0.out.below hb4 HX0.out.lt)
    have HY4 := Lib.hid (HY0.out.below hb4 HY0.out.lt)
    have HR4 := Lib.hid (HR0.out.below hb4 HR0.out.lt)
    have HB4 := Lib.hid hb4
    have HQ4 := Lib.hid hq4
    have HC4 := Lib.hid hc4
    have HW4 := Lib.hid hw4
    have x0 : V4.cell? ⟨M.x, 0, none⟩ = some (.pointer (some ⟨M.y, 0, none⟩)) := HX4.out.cell rfl
    clear hb4 hq4 hc4 hw4 nc nw hxq z0 z1 z2 z3 fq0 fq1 fq2 fq3 hQf0
    go_wp2_with fail
    refine (log_any M.y 0 V4).mono ?_
    rintro e w5 ⟨rfl, rfl⟩
    go_wp2_with fail
    have hb5 : Below V4.heap.size V4 ((V4.alloc (.cells #[.pointer (some ⟨M.y, 0, none⟩)] 119)).alloc (.cells #[.int .i64 0] 3)) := ((Below.refl _ _).alloc (Nat.le_refl _) _).alloc (by simp) _
    have hbm : Blk ((V4.alloc (.cells #[.pointer (some ⟨M.y, 0, none⟩)] 119)).alloc (.cells #[.int .i64 0] 3)) V4.heap.size 119 [.pointer (some ⟨M.y, 0, none⟩)] := (Blk.new V4 119 [.pointer (some ⟨M.y, 0, none⟩)]).alloc _
    have hbf : Blk ((V4.alloc (.cells #[.pointer (some ⟨M.y, 0, none⟩)] 119)).alloc (.cells #[.int .i64 0] 3)) (V4.heap.size + 1) 3 [.int .i64 0] := new1_blk' _ _ _ _
    generalize (V4.alloc (.cells #[.pointer (some ⟨M.y, 0, none⟩)] 119)).alloc (.cells #[.int .i64 0] 3) = V5 at hb5 hbm hbf ⊢
    have hq5 := HQ4.out.below hb5 HQ4.out.lt
    have hr5 := HR4.out.below hb5 HR4.out.lt
    have hc5 := HC4.out.below hb5
    have hw5 := HW4.out.below hb5
    have hy5 := HY4.out.below hb5 HY4.out.lt
    have hM5 := HM4.out.on hb5
    have hB5 : Below V0.heap.size V0 V5 := HB4.out.trans (hb5.mono HB4.out.size)
    have hD5 := hB5.size
    have htr : trB qf V5 = none := trB_blk hq5 rfl
    have hqr : qf ≠ W.heap.size := by have := HR0.out.lt; omega
    have hI0 : RnI V0 qf W.heap.size (.slice Aq m.calls.length kc) (.slice Aw m.words.length kw) m (([] : List (Nat × Ac)).map Prod.snd) V5 := ⟨none, 0, hq5, World.ownsRow_nil _ _ _ _, hc5, hw5, hr5, hB5⟩
    have hq5l := hq5.lt
    have HLS := Lib.hid (log_stops 8 (by omega) qf V4.heap.size (V4.heap.size + 1) M.y B M.vl m.log hlim.1 V5 (hbm.cell rfl) (hbf.cell rfl) (hy5.cell rfl) hM5.lo hq5l htr)
    have HI0 := Lib.hid hI0
    clear hI0 hq5 hr5 hc5 hw5 hy5 hM5 hB5 htr hbm hbf hb5
    refine (wpIn_wide (n := 9)).1 ?_
    refine wpIn_rangeFunc_ownH (F := Fence.wide) rfl (by omega) (gf := 60) (lb := #[.pointer (some ⟨V4.heap.size, 0, none⟩), .pointer (some ⟨V4.heap.size + 1, 0, none⟩)]) rfl trivial (enters_of Try.func60 (by kernel_rfl) rfl)
      HLS.out (fun h h' => h.trans h') (kpT_b hq5l) (Below.refl _ _) (fun _ => rfl)
      (fun pre W5 => RnI V0 qf W.heap.size (.slice Aq m.calls.length kc) (.slice Aw m.words.length kw) m (pre.map Prod.snd) W5) (fun _ _ _ => False) (RnI.own hD5) (fun _ _ _ _ _ hs _ _ => hs) HI0.out
      (fun x a' W5 => ∃ Bx, Blk W5 Bx 66 (acL x.2) ∧ a' = { tmps := #[.pointer (some ⟨M.x, 0, none⟩), undef, .pointer (some ⟨W.heap.size, 0, none⟩), .pointer (some ⟨qf, 0, none⟩), undef, .pointer (some ⟨Bx, 0, none⟩), .pointer (some ⟨M.x, 0, none⟩), .bool false, .bool false, .pointer (some ⟨M.x, 0, none⟩), .pointer (some ⟨M.x, 0, none⟩), .pointer (some ⟨M.x, 8, none⟩), .slice (some ⟨M.sg, 0, none⟩) m.ths.length M.sk, .int .i64 m.ths.length, .bool false, .bool false, undef, .pointer (some ⟨M.x, 0, none⟩), .pointer (some ⟨M.x, 0, none⟩), .pointer (some ⟨M.x, 10, none⟩), M.vc, .slice Aq m.calls.length kc, .pointer (some ⟨M.x, 0, none⟩), .pointer (some ⟨M.x, 0, none⟩), .pointer (some ⟨M.x, 0, none⟩), .pointer (some ⟨M.x, 6, none⟩), .slice none 0 0, .slice none 0 0, .pointer (some ⟨M.x, 0, none⟩), .pointer (some ⟨M.x, 0, none⟩), .pointer (some ⟨M.x, 0, none⟩), .pointer (some ⟨M.x, 0, none⟩), .pointer (some ⟨M.y, 0, none⟩), .slice Aw m.words.length kw, .agg #[.slice Aq m.calls.length kc, .slice none 0 0, .slice none 0 0, .slice Aw m.words.length kw], .pointer (some ⟨M.x, 0, none⟩), .pointer (some ⟨M.x, 0, none⟩), .pointer (some ⟨M.x, 0, none⟩), .pointer (some ⟨M.x, 0, none⟩), .pointer (some ⟨M.y, 0, none⟩), .func (.func 60) #[] #[.pointer (some ⟨V4.heap.size, 0, none⟩), .pointer (some ⟨V4.heap.size + 1, 0, none⟩)], .int .i64 (x.1 : Int), acV x.2, undef, undef, undef, undef, undef, undef, undef], defers := [] })
      (fun x a' _ W5 W6 row hs hg hr => by
        obtain ⟨Bx, h2, h3⟩ := hs
        exact ⟨Bx, blk_grow h2 hg hr, h3⟩) ?assign ?body ?done ?stop
    case assign =>
      intro l pre x W5 K hI hK
      gi_wp2
      have hq9 : qf < W5.heap.size := by obtain ⟨_, _, h1, _⟩ := hI; exact h1.lt
      exact hK _ _ ((KeepsOthers.alloc _ _).from _) (KpT.alloc _ hq9) (OwnFrom.alloc (B := V5.heap.size) (RnI.own hD5) _ hI) ⟨W5.heap.size, Blk.new W5 66 (acL x.2), rfl⟩
    case body =>
      rintro l pre x a' W5 hl ⟨r9, hr9⟩ hI ⟨Bx, hbk, rfl⟩ hlen
      obtain ⟨At, kt, i1, i2, i3, i4, i5, i6⟩ := hI
      have hlp : (pre.map Prod.snd).length = pre.length := List.length_map _
      have hlen9 : (pre.map Prod.snd).length ≤ 100000 := by have := hlim.1; omega
      have c1 : W5.cell? ⟨qf, 1, none⟩ = some (.slice At (pre.map Prod.snd).length kt) := i1.cell rfl
      have b0 : W5.cell? ⟨Bx, 0, none⟩ = some (.int .i64 x.2.mv) := hbk.cell rfl
      have b1 : W5.cell? ⟨Bx, 1, none⟩ = some (.int .i64 x.2.th) := hbk.cell rfl
      have b2 : W5.cell? ⟨Bx, 2, none⟩ = some (.int .i64 x.2.kd) := hbk.cell rfl
      have b3 : W5.cell? ⟨Bx, 3, none⟩ = some (.int .i64 x.2.ad) := hbk.cell rfl
      have b4 : W5.cell? ⟨Bx, 4, none⟩ = some (.int .u64 x.2.old) := hbk.cell rfl
      have b5 : W5.cell? ⟨Bx, 5, none⟩ = some (.int .u64 x.2.new) := hbk.cell rfl
      have b6 : W5.cell? ⟨Bx, 6, none⟩ = some (.int .u64 x.2.saw) := hbk.cell rfl
      have hsz5 : V0.heap.size ≤ W5.heap.size := i6.size
      have J1 := Lib.hid i1
      have J2 := Lib.hid i2
      have JI : Hid (RnI V0 qf W.heap.size (.slice Aq m.calls.length kc) (.slice Aw m.words.length kw) m (pre.map Prod.snd) W5) := ⟨At, kt, i1, i2, i3, i4, i5, i6⟩
      generalize hpl : pre.map Prod.snd = pl at *
      clear i1 i2 i3 i4 i5 i6 hlp
      gi_wp2_with (gi_at_builtin; go_must (refine wpListIn_append_own_at _ rfl _ _ 36 rfl V0.heap.size 66 ia (.agg #[.int .i64 0, .int .i64 0, .int .i64 0, .int .i64 0, .int .u64 0, .int .u64 0, .int .u64 0]) 7 56 Try.underlying36 hia hiaz hias hiab rfl (by decide) (.slice At pl.length kt) pl.length (acVals pl) rfl (J2.out.alloc _) ⟨W5.heap.size, 0, none⟩ 1 1 (acL x.2) rfl rfl (cell_seven W5 x.2) (ac_one _) (by simp only [maxLen]; omega) (by omega) (by simp; omega) ?_; intro v' w10 hown hgr _ hloc; obtain ⟨A9, k9, hv9, _, _⟩ := own_form hown; subst hv9; have hbk9 := (J1.out.alloc (.cells (acL x.2).toArray 66)).grown hgr (own_blk_ne J2.out J1.out (by decide)); have d1 : w10.cell? ⟨qf, 1, none⟩ = some (.slice At pl.length kt) := hbk9.cell rfl; have f1 := hbk9.frozen 1))
      obtain ⟨e1, e2, e3⟩ := JI.out.next x.2 J1.out J2.out _ rfl hown hgr (by simpa using hloc) hqf hqr
      refine ⟨e3.from _, e2, ?_⟩
      dsimp only
      rw [List.map_append, hpl]
      exact e1
    case done =>
      rintro D xs W5 hD rfl hI hK
      rw [upt_all] at hI
      obtain ⟨At, kt, i1, i2, i3, i4, i5, i6⟩ := hI
      have c0 : W5.cell? ⟨qf, 0, none⟩ = some (.slice Aq m.calls.length kc) := i1.cell rfl
      have c1 : W5.cell? ⟨qf, 1, none⟩ = some (.slice At m.log.length kt) := i1.cell rfl
      have c2 : W5.cell? ⟨qf, 2, none⟩ = some (.slice none 0 0) := i1.cell rfl
      have c3 : W5.cell? ⟨qf, 3, none⟩ = some (.slice Aw m.words.length kw) := i1.cell rfl
      have r0 : W5.cell? ⟨W.heap.size, 0, none⟩ = some (.slice none 0 0) := i5.cell rfl
      have r1 : W5.cell? ⟨W.heap.size, 1, none⟩ = some (.slice none 0 0) := i5.cell rfl
      have r2 : W5.cell? ⟨W.heap.size, 2, none⟩ = some (.slice none 0 0) := i5.cell rfl
      have r3 : W5.cell? ⟨W.heap.size, 3, none⟩ = some (.slice none 0 0) := i5.cell rfl
      have g0 := i5.frozen 0
      have g1 := i5.frozen 1
      have g2 := i5.frozen 2
      have g3 := i5.frozen 3
      go_wp2_with fail
      have hk6 : ((((W5.setCell ⟨W.heap.size, 0, none⟩ (.slice Aq m.calls.length kc)).setCell ⟨W.heap.size, 1, none⟩ (.slice At m.log.length kt)).setCell ⟨W.heap.size, 2, none⟩ (.slice none 0 0)).setCell ⟨W.heap.size, 3, none⟩ (.slice Aw m.words.length kw)).heap[D]? = some (.deferred (some [])) := ((((KeepsOthers.setCell _ _ _).trans (KeepsOthers.setCell _ _ _)).trans (KeepsOthers.setCell _ _ _)).trans (KeepsOthers.setCell _ _ _)).same D _ hK rfl
      have hr6 : Blk ((((W5.setCell ⟨W.heap.size, 0, none⟩ (.slice Aq m.calls.length kc)).setCell ⟨W.heap.size, 1, none⟩ (.slice At m.log.length kt)).setCell ⟨W.heap.size, 2, none⟩ (.slice none 0 0)).setCell ⟨W.heap.size, 3, none⟩ (.slice Aw m.words.length kw)) W.heap.size 39 [.slice Aq m.calls.length kc, .slice At m.log.length kt, .slice none 0 0, .slice Aw m.words.length kw] := (((i5.set_ 0 (.slice Aq m.calls.length kc)).set_ 1 (.slice At m.log.length kt)).set_ 2 (.slice none 0 0)).set_ 3 (.slice Aw m.words.length kw)
      have nt := own_blk_ne i2 i5 (by decide)
      have nc := own_blk_ne i3 i5 (by decide)
      have nw := own_blk_ne i4 i5 (by decide)
      have t6 := own_setf (own_setf (own_setf (own_setf i2 (p := ⟨W.heap.size, 0, none⟩) nt (.slice Aq m.calls.length kc)) (p := ⟨W.heap.size, 1, none⟩) nt (.slice At m.log.length kt)) (p := ⟨W.heap.size, 2, none⟩) nt (.slice none 0 0)) (p := ⟨W.heap.size, 3, none⟩) nt (.slice Aw m.words.length kw)
      have k6 := own_setf (own_setf (own_setf (own_setf i3 (p := ⟨W.heap.size, 0, none⟩) nc (.slice Aq m.calls.length kc)) (p := ⟨W.heap.size, 1, none⟩) nc (.slice At m.log.length kt)) (p := ⟨W.heap.size, 2, none⟩) nc (.slice none 0 0)) (p := ⟨W.heap.size, 3, none⟩) nc (.slice Aw m.words.length kw)
      have w6 := own_setf (own_setf (own_setf (own_setf i4 (p := ⟨W.heap.size, 0, none⟩) nw (.slice Aq m.calls.length kc)) (p := ⟨W.heap.size, 1, none⟩) nw (.slice At m.log.length kt)) (p := ⟨W.heap.size, 2, none⟩) nw (.slice none 0 0)) (p := ⟨W.heap.size, 3, none⟩) nw (.slice Aw m.words.length kw)
      have b6 : Below W.heap.size W ((((W5.setCell ⟨W.heap.size, 0, none⟩ (.slice Aq m.calls.length kc)).setCell ⟨W.heap.size, 1, none⟩ (.slice At m.log.length kt)).setCell ⟨W.heap.size, 2, none⟩ (.slice none 0 0)).setCell ⟨W.heap.size, 3, none⟩ (.slice Aw m.words.length kw)) := ((((HBW.out.trans (i6.mono HBW.out.size)).setCell (Nat.le_refl _) _).setCell (Nat.le_refl _) _).setCell (Nat.le_refl _) _).setCell (Nat.le_refl _) _
      generalize ((((W5.setCell ⟨W.heap.size, 0, none⟩ (.slice Aq m.calls.length kc)).setCell ⟨W.heap.size, 1, none⟩ (.slice At m.log.length kt)).setCell ⟨W.heap.size, 2, none⟩ (.slice none 0 0)).setCell ⟨W.heap.size, 3, none⟩ (.slice Aw m.words.length kw)) = W6 at hk6 hr6 t6 k6 w6 b6 ⊢
      have hg7 := grownBy_putObj' W6 D (.deferred none)
      have hr7 : ∀ r, some D = some r → 0 ≤ r ∧ ∃ o : Obj, W6.heap[r]? = some o ∧ o.isCells = false := fun r e => by
        injection e with e
        subst e
        exact ⟨Nat.zero_le _, _, hk6, rfl⟩
      have hDW : W.heap.size ≤ D := Nat.le_trans (Nat.le_trans HBW.out.size hD5) hD
      have hbw := HBW.out.size
      refine (?_ : bodyPostM Fence.wide 9 Try.prog Try.f30 (RunR m W) .ret _ W6)
      refine ⟨by simp, .inl ⟨_, _, rfl, run_takeDeferred hk6, ?_⟩⟩
      exact ⟨_, results_cell_row rfl _ _ W.heap.size 39 #[.slice Aq m.calls.length kc, .slice At m.log.length kt, .slice none 0 0, .slice Aw m.words.length kw] (0, 0) _ rfl (blk_grow hr6 hg7 hr7) Try.underlying39 rfl size_run,
        Aq, kc, At, kt, Aw, kw, rfl, own_low9 (own_grow k6 hg7 hr7) hbw, own_low9 (own_grow t6 hg7 hr7) hbw, own_low9 (own_grow w6 hg7 hr7) hbw, b6.grown hg7 b6.size (fun q hq => by injection hq with hq; omega)⟩
    case stop =>
      rintro D c pre W5 _ _ h _
      exact h.elim)
end Go.Proofs.Ytjnmlgfkiebkgaa
