/-
  reclaimref28.Load.
-/
import Derived.Test.YtgbopmgeicokoaaMade
import Derived.Test.YtgbopmgeicokoaaPLd
namespace Go.Proofs.Ytgbopmgeicokoaa
open Go.RowKit

theorem loadR_inl {l : List Nat} {e : Int} (h : headL l = .inl e) : loadR l = noLd e := by unfold loadR; rw [h]
theorem loadR_go {l d nl : List Nat} {kk z : Nat} {S1 S2 : Rs} (hh : headL l = .inr (kk, d)) (hp : numsG cntT (manyN kk) (d, false) = (nl, S1)) (hq : numG cntT S1 = (z, S2)) :
    loadR l = if S2.2 = true then noLd 281 else tailL kk nl z (mvsG cntT z S2) := by
  unfold loadR
  rw [hh]
  dsimp only
  rw [hp]
  dsimp only
  rw [hq]
theorem mvsT_bad {s : Rs} {k : Nat} (h : (mvsG cntT k s).2.2 = true) : ∀ j, (mvsG cntT (k + j) s).2.2 = true
  | 0 => h
  | j + 1 => by
    have ih := mvsT_bad h j
    cases hb : (mvsG cntT (k + (j + 1)) s).2.2 with
    | true => rfl
    | false =>
      have := (mvT_good (s := (mvsG cntT (k + j) s).2) hb).1
      rw [ih] at this
      cases this
theorem sum_ne {l : List Nat} {E C j y : Nat} (h : l[E + j]? = some y) (hj : j < 4) (hne : y ≠ C / 256 ^ j % 256) : l.drop E ≠ leB C 4 := by
  intro he
  have h1 : (l.drop E)[j]? = some y := by rw [List.getElem?_drop]; exact h
  rw [he] at h1
  simp [leB, hj] at h1
  exact hne h1.symm
theorem sum_eq {l : List Nat} {E C : Nat} (hl : l.length = E + 4) (h : ∀ i, i < 4 → l[E + i]? = some (C / 256 ^ i % 256)) : l.drop E = leB C 4 := by
  apply List.ext_getElem?
  intro i
  rw [List.getElem?_drop]
  by_cases hi : i < 4
  · rw [h i hi]
    simp [leB, hi]
  · rw [List.getElem?_eq_none (by omega), List.getElem?_eq_none (by simp [leB]; omega)]
theorem cntQ_le {s : Rs} : (cntT s).2.1.length ≤ s.1.length := by
  unfold cntT
  cases h : cntQ 0 0 s.1 with
  | none => exact Nat.le_refl _
  | some p =>
    obtain ⟨m, l', b⟩ := p
    exact Nat.le_of_lt (cntQ_lt (by simp) h).2
theorem numT_le (s : Rs) : (numG cntT s).2.1.length ≤ s.1.length := by
  unfold numG
  split
  · exact cntQ_le
  · exact cntQ_le
theorem numsT_le (s : Rs) : ∀ k, (numsG cntT k s).2.1.length ≤ s.1.length
  | 0 => Nat.le_refl _
  | k + 1 => Nat.le_trans (numT_le _) (numsT_le s k)
theorem natsV_app (l l' : List Nat) : natsV (l ++ l') = natsV l ++ natsV l' := by simp [natsV]
theorem nat_one {z : Int} : ∀ u ∈ [Value.int .i64 z], u.oneCell' = true := by intro u hu; simp at hu; subst hu; rfl

set_option maxRecDepth 100000 in
set_option maxHeartbeats 8000000 in
theorem rload_any (A : Option Addr) (n k : Nat) (l : List Nat) (w : World) (h : Sl w w.heap.size 1 A n (u8s l)) (hn : n ≤ k ∧ k ≤ maxLen) (hl : ∀ x ∈ l, x < 256) :
    Calls Try.prog 40 #[.slice A n k] w (LdR (loadR l) w) := by
  obtain ⟨i1, hi1, hi1z, hi1s, hi1b⟩ := info_parts info_move
  obtain ⟨i0, hi0, hi0z, hi0s, hi0b⟩ := info_parts info_int'
  have hlen : l.length = n := by have := h.1; rw [u8s_len] at this; omega
  have HSl := Lib.hid h
  have HL8 := Lib.hid hl
  have HLen := Lib.hid hlen
  have hk1 := hn.1
  have HK := Lib.hid hn.2
  have HB0 : Hid (Below w.heap.size w (w.alloc (.cells #[.int .i64 0, .int .i64 0, .int .i64 0, .int .i64 0, .int .i64 0, .int .i64 0, .int .i64 0, .int .i64 0, .int .i64 0, .int .i64 0, .int .i64 0, .int .i64 0, .int .i64 0, .int .i64 0, .int .i64 0, .int .i64 0, .slice none 0 0] 76))) := (Below.refl _ _).alloc (Nat.le_refl _) _
  have HZ0 : Hid (Blk (w.alloc (.cells #[.int .i64 0, .int .i64 0, .int .i64 0, .int .i64 0, .int .i64 0, .int .i64 0, .int .i64 0, .int .i64 0, .int .i64 0, .int .i64 0, .int .i64 0, .int .i64 0, .int .i64 0, .int .i64 0, .int .i64 0, .int .i64 0, .slice none 0 0] 76)) w.heap.size 76 [.int .i64 0, .int .i64 0, .int .i64 0, .int .i64 0, .int .i64 0, .int .i64 0, .int .i64 0, .int .i64 0, .int .i64 0, .int .i64 0, .int .i64 0, .int .i64 0, .int .i64 0, .int .i64 0, .int .i64 0, .int .i64 0, .slice none 0 0]) := Blk.new w 76 [.int .i64 0, .int .i64 0, .int .i64 0, .int .i64 0, .int .i64 0, .int .i64 0, .int .i64 0, .int .i64 0, .int .i64 0, .int .i64 0, .int .i64 0, .int .i64 0, .int .i64 0, .int .i64 0, .int .i64 0, .int .i64 0, .slice none 0 0]
  clear h hn hl hlen
  go_enter Try.func40, Try.ntmps40
  go_upto_region 1 with fail
  generalize w.alloc (.cells #[.int .i64 0, .int .i64 0, .int .i64 0, .int .i64 0, .int .i64 0, .int .i64 0, .int .i64 0, .int .i64 0, .int .i64 0, .int .i64 0, .int .i64 0, .int .i64 0, .int .i64 0, .int .i64 0, .int .i64 0, .int .i64 0, .slice none 0 0] 76) = w0 at HB0 HZ0 ⊢
  have hz0 : w.heap.size < w0.heap.size := HZ0.out.lt
  by_cases hlong : 4194304 < n
  · have d1 : decide ((4194304 : Int) < n) = true := by simp; omega
    have d2 : (4194304 : Int) < n := by omega
    have d3 : decide (4194304 < n) = true := by simp; omega
    have HX := Lib.hid (loadR_inl (head_long (by rw [HLen.out]; exact hlong)))
    clear hlong
    go_upto_region 2 with fail
    refine wp_region_lit ?_
    refine Go.wpList_buildTo rfl 76 #[] rfl _ rfl #[.int .i64 0, .int .i64 0, .int .i64 0, .int .i64 0, .int .i64 0, .int .i64 0, .int .i64 0, .int .i64 0, .int .i64 0, .int .i64 0, .int .i64 0, .int .i64 0, .int .i64 0, .int .i64 0, .int .i64 0, .int .i64 0, .slice none 0 0] (by kernel_rfl) ?_
    refine wpList_store_row rfl _ _ _ rfl w.heap.size #[.int .i64 0, .int .i64 0, .int .i64 0, .int .i64 0, .int .i64 0, .int .i64 0, .int .i64 0, .int .i64 0, .int .i64 0, .int .i64 0, .int .i64 0, .int .i64 0, .int .i64 0, .int .i64 0, .int .i64 0, .int .i64 0, .slice none 0 0] rfl rfl _ _ HZ0.out size_ses rfl (by simp [Value.oneCell']) ?_
    have HF := setRow_heap w0 w.heap.size _ #[.int .i64 0, .int .i64 0, .int .i64 0, .int .i64 0, .int .i64 0, .int .i64 0, .int .i64 0, .int .i64 0, .int .i64 0, .int .i64 0, .int .i64 0, .int .i64 0, .int .i64 0, .int .i64 0, .int .i64 0, .int .i64 0, .slice none 0 0] _ _ HZ0.out
    have HB9 : Below w.heap.size w (w0.setRow w.heap.size #[.int .i64 0, .int .i64 0, .int .i64 0, .int .i64 0, .int .i64 0, .int .i64 0, .int .i64 0, .int .i64 0, .int .i64 0, .int .i64 0, .int .i64 0, .int .i64 0, .int .i64 0, .int .i64 0, .int .i64 0, .int .i64 0, .slice none 0 0]) := below_row HB0.out (Nat.le_refl _)
    go_wp2_with fail
    refine bodyPost_ret_by (results_cell_row2 rfl _ _ w.heap.size 76 _ (0, 0) _ rfl HF Try.underlying76 rfl size_ses) rfl ?_
    exact LdR.no HB9 HX.out
  have d1 : decide ((4194304 : Int) < n) = false := by simp; omega
  have d2 : ¬ (4194304 : Int) < n := by omega
  have d3 : decide (4194304 < n) = false := by simp; omega
  go_upto_region 3 with fail
  by_cases h9 : n < 9
  · have c1 : decide ((n : Int) < 9) = true := by simp; omega
    have c2 : (n : Int) < 9 := by omega
    have c3 : decide (n < 9) = true := by simp; omega
    have HX := Lib.hid (loadR_inl (head_img (by rw [HLen.out]; exact hlong) (Or.inl (by rw [HLen.out]; exact h9))))
    go_upto_region 4 with fail
    refine wp_region_lit ?_
    refine Go.wpList_buildTo rfl 76 #[] rfl _ rfl #[.int .i64 0, .int .i64 0, .int .i64 0, .int .i64 0, .int .i64 0, .int .i64 0, .int .i64 0, .int .i64 0, .int .i64 0, .int .i64 0, .int .i64 0, .int .i64 0, .int .i64 0, .int .i64 0, .int .i64 0, .int .i64 0, .slice none 0 0] (by kernel_rfl) ?_
    refine wpList_store_row rfl _ _ _ rfl w.heap.size #[.int .i64 0, .int .i64 0, .int .i64 0, .int .i64 0, .int .i64 0, .int .i64 0, .int .i64 0, .int .i64 0, .int .i64 0, .int .i64 0, .int .i64 0, .int .i64 0, .int .i64 0, .int .i64 0, .int .i64 0, .int .i64 0, .slice none 0 0] rfl rfl _ _ HZ0.out size_ses rfl (by simp [Value.oneCell']) ?_
    have HF := setRow_heap w0 w.heap.size _ #[.int .i64 0, .int .i64 0, .int .i64 0, .int .i64 0, .int .i64 0, .int .i64 0, .int .i64 0, .int .i64 0, .int .i64 0, .int .i64 0, .int .i64 0, .int .i64 0, .int .i64 0, .int .i64 0, .int .i64 0, .int .i64 0, .slice none 0 0] _ _ HZ0.out
    have HB9 : Below w.heap.size w (w0.setRow w.heap.size #[.int .i64 0, .int .i64 0, .int .i64 0, .int .i64 0, .int .i64 0, .int .i64 0, .int .i64 0, .int .i64 0, .int .i64 0, .int .i64 0, .int .i64 0, .int .i64 0, .int .i64 0, .int .i64 0, .int .i64 0, .int .i64 0, .slice none 0 0]) := below_row HB0.out (Nat.le_refl _)
    go_wp2_with fail
    refine bodyPost_ret_by (results_cell_row2 rfl _ _ w.heap.size 76 _ (0, 0) _ rfl HF Try.underlying76 rfl size_ses) rfl ?_
    exact LdR.no HB9 HX.out
  have c1 : decide ((n : Int) < 9) = false := by simp; omega
  have c2 : ¬ (n : Int) < 9 := by omega
  have c3 : decide (n < 9) = false := by simp; omega
  obtain ⟨b, o, rfl, hb, hc⟩ := HSl.out.2 (by omega)
  have HCell : Hid (∀ (j x : Nat), l[j]? = some x → w.cell? ⟨b, o + j, none⟩ = some (.int .u8 x)) := fun j x hx => hc j _ (u8s_get hx)
  obtain ⟨x0, g0⟩ := at_lt (show 0 < l.length by rw [HLen.out]; omega)
  obtain ⟨x1, g1⟩ := at_lt (show 1 < l.length by rw [HLen.out]; omega)
  obtain ⟨x2, g2⟩ := at_lt (show 2 < l.length by rw [HLen.out]; omega)
  obtain ⟨x3, g3⟩ := at_lt (show 3 < l.length by rw [HLen.out]; omega)
  have HT4 := Lib.hid (take4 g0 g1 g2 g3)
  have m0 : w0.cell? ⟨b, o, none⟩ = some (.int .u8 x0) := (HB0.out.cell (p := ⟨b, o, none⟩) hb).trans (HCell.out 0 x0 g0)
  have m1 : w0.cell? ⟨b, o + 1, none⟩ = some (.int .u8 x1) := (HB0.out.cell (p := ⟨b, o + 1, none⟩) hb).trans (HCell.out 1 x1 g1)
  have m2 : w0.cell? ⟨b, o + 2, none⟩ = some (.int .u8 x2) := (HB0.out.cell (p := ⟨b, o + 2, none⟩) hb).trans (HCell.out 2 x2 g2)
  have m3 : w0.cell? ⟨b, o + 3, none⟩ = some (.int .u8 x3) := (HB0.out.cell (p := ⟨b, o + 3, none⟩) hb).trans (HCell.out 3 x3 g3)
  clear hc g0 g1 g2 g3
  by_cases z0 : x0 = 82
  case neg =>
    have q0 : ((x0 : Int) != 82) = true := by simp; omega
    have HX := Lib.hid (loadR_inl (head_img (by rw [HLen.out]; exact hlong) (Or.inr (by rw [HT4.out]; intro he; injection he with h0 he; injection he with h1 he; injection he with h2 he; injection he with h3 he; omega))))
    go_upto_region 4 with fail
    refine wp_region_lit ?_
    refine Go.wpList_buildTo rfl 76 #[] rfl _ rfl #[.int .i64 0, .int .i64 0, .int .i64 0, .int .i64 0, .int .i64 0, .int .i64 0, .int .i64 0, .int .i64 0, .int .i64 0, .int .i64 0, .int .i64 0, .int .i64 0, .int .i64 0, .int .i64 0, .int .i64 0, .int .i64 0, .slice none 0 0] (by kernel_rfl) ?_
    refine wpList_store_row rfl _ _ _ rfl w.heap.size #[.int .i64 0, .int .i64 0, .int .i64 0, .int .i64 0, .int .i64 0, .int .i64 0, .int .i64 0, .int .i64 0, .int .i64 0, .int .i64 0, .int .i64 0, .int .i64 0, .int .i64 0, .int .i64 0, .int .i64 0, .int .i64 0, .slice none 0 0] rfl rfl _ _ HZ0.out size_ses rfl (by simp [Value.oneCell']) ?_
    have HF := setRow_heap w0 w.heap.size _ #[.int .i64 0, .int .i64 0, .int .i64 0, .int .i64 0, .int .i64 0, .int .i64 0, .int .i64 0, .int .i64 0, .int .i64 0, .int .i64 0, .int .i64 0, .int .i64 0, .int .i64 0, .int .i64 0, .int .i64 0, .int .i64 0, .slice none 0 0] _ _ HZ0.out
    have HB9 : Below w.heap.size w (w0.setRow w.heap.size #[.int .i64 0, .int .i64 0, .int .i64 0, .int .i64 0, .int .i64 0, .int .i64 0, .int .i64 0, .int .i64 0, .int .i64 0, .int .i64 0, .int .i64 0, .int .i64 0, .int .i64 0, .int .i64 0, .int .i64 0, .int .i64 0, .slice none 0 0]) := below_row HB0.out (Nat.le_refl _)
    go_wp2_with fail
    refine bodyPost_ret_by (results_cell_row2 rfl _ _ w.heap.size 76 _ (0, 0) _ rfl HF Try.underlying76 rfl size_ses) rfl ?_
    exact LdR.no HB9 HX.out
  have q0 : ((x0 : Int) != 82) = false := by simp; omega
  by_cases z1 : x1 = 67
  case neg =>
    have q1 : ((x1 : Int) != 67) = true := by simp; omega
    have HX := Lib.hid (loadR_inl (head_img (by rw [HLen.out]; exact hlong) (Or.inr (by rw [HT4.out]; intro he; injection he with h0 he; injection he with h1 he; injection he with h2 he; injection he with h3 he; omega))))
    go_upto_region 4 with fail
    refine wp_region_lit ?_
    refine Go.wpList_buildTo rfl 76 #[] rfl _ rfl #[.int .i64 0, .int .i64 0, .int .i64 0, .int .i64 0, .int .i64 0, .int .i64 0, .int .i64 0, .int .i64 0, .int .i64 0, .int .i64 0, .int .i64 0, .int .i64 0, .int .i64 0, .int .i64 0, .int .i64 0, .int .i64 0, .slice none 0 0] (by kernel_rfl) ?_
    refine wpList_store_row rfl _ _ _ rfl w.heap.size #[.int .i64 0, .int .i64 0, .int .i64 0, .int .i64 0, .int .i64 0, .int .i64 0, .int .i64 0, .int .i64 0, .int .i64 0, .int .i64 0, .int .i64 0, .int .i64 0, .int .i64 0, .int .i64 0, .int .i64 0, .int .i64 0, .slice none 0 0] rfl rfl _ _ HZ0.out size_ses rfl (by simp [Value.oneCell']) ?_
    have HF := setRow_heap w0 w.heap.size _ #[.int .i64 0, .int .i64 0, .int .i64 0, .int .i64 0, .int .i64 0, .int .i64 0, .int .i64 0, .int .i64 0, .int .i64 0, .int .i64 0, .int .i64 0, .int .i64 0, .int .i64 0, .int .i64 0, .int .i64 0, .int .i64 0, .slice none 0 0] _ _ HZ0.out
    have HB9 : Below w.heap.size w (w0.setRow w.heap.size #[.int .i64 0, .int .i64 0, .int .i64 0, .int .i64 0, .int .i64 0, .int .i64 0, .int .i64 0, .int .i64 0, .int .i64 0, .int .i64 0, .int .i64 0, .int .i64 0, .int .i64 0, .int .i64 0, .int .i64 0, .int .i64 0, .slice none 0 0]) := below_row HB0.out (Nat.le_refl _)
    go_wp2_with fail
    refine bodyPost_ret_by (results_cell_row2 rfl _ _ w.heap.size 76 _ (0, 0) _ rfl HF Try.underlying76 rfl size_ses) rfl ?_
    exact LdR.no HB9 HX.out
  have q1 : ((x1 : Int) != 67) = false := by simp; omega
  by_cases z2 : x2 = 76
  case neg =>
    have q2 : ((x2 : Int) != 76) = true := by simp; omega
    have HX := Lib.hid (loadR_inl (head_img (by rw [HLen.out]; exact hlong) (Or.inr (by rw [HT4.out]; intro he; injection he with h0 he; injection he with h1 he; injection he with h2 he; injection he with h3 he; omega))))
    go_upto_region 4 with fail
    refine wp_region_lit ?_
    refine Go.wpList_buildTo rfl 76 #[] rfl _ rfl #[.int .i64 0, .int .i64 0, .int .i64 0, .int .i64 0, .int .i64 0, .int .i64 0, .int .i64 0, .int .i64 0, .int .i64 0, .int .i64 0, .int .i64 0, .int .i64 0, .int .i64 0, .int .i64 0, .int .i64 0, .int .i64 0, .slice none 0 0] (by kernel_rfl) ?_
    refine wpList_store_row rfl _ _ _ rfl w.heap.size #[.int .i64 0, .int .i64 0, .int .i64 0, .int .i64 0, .int .i64 0, .int .i64 0, .int .i64 0, .int .i64 0, .int .i64 0, .int .i64 0, .int .i64 0, .int .i64 0, .int .i64 0, .int .i64 0, .int .i64 0, .int .i64 0, .slice none 0 0] rfl rfl _ _ HZ0.out size_ses rfl (by simp [Value.oneCell']) ?_
    have HF := setRow_heap w0 w.heap.size _ #[.int .i64 0, .int .i64 0, .int .i64 0, .int .i64 0, .int .i64 0, .int .i64 0, .int .i64 0, .int .i64 0, .int .i64 0, .int .i64 0, .int .i64 0, .int .i64 0, .int .i64 0, .int .i64 0, .int .i64 0, .int .i64 0, .slice none 0 0] _ _ HZ0.out
    have HB9 : Below w.heap.size w (w0.setRow w.heap.size #[.int .i64 0, .int .i64 0, .int .i64 0, .int .i64 0, .int .i64 0, .int .i64 0, .int .i64 0, .int .i64 0, .int .i64 0, .int .i64 0, .int .i64 0, .int .i64 0, .int .i64 0, .int .i64 0, .int .i64 0, .int .i64 0, .slice none 0 0]) := below_row HB0.out (Nat.le_refl _)
    go_wp2_with fail
    refine bodyPost_ret_by (results_cell_row2 rfl _ _ w.heap.size 76 _ (0, 0) _ rfl HF Try.underlying76 rfl size_ses) rfl ?_
    exact LdR.no HB9 HX.out
  have q2 : ((x2 : Int) != 76) = false := by simp; omega
  by_cases z3 : x3 = 1
  case neg =>
    have q3 : ((x3 : Int) != 1) = true := by simp; omega
    have HX := Lib.hid (loadR_inl (head_img (by rw [HLen.out]; exact hlong) (Or.inr (by rw [HT4.out]; intro he; injection he with h0 he; injection he with h1 he; injection he with h2 he; injection he with h3 he; omega))))
    go_upto_region 4 with fail
    refine wp_region_lit ?_
    refine Go.wpList_buildTo rfl 76 #[] rfl _ rfl #[.int .i64 0, .int .i64 0, .int .i64 0, .int .i64 0, .int .i64 0, .int .i64 0, .int .i64 0, .int .i64 0, .int .i64 0, .int .i64 0, .int .i64 0, .int .i64 0, .int .i64 0, .int .i64 0, .int .i64 0, .int .i64 0, .slice none 0 0] (by kernel_rfl) ?_
    refine wpList_store_row rfl _ _ _ rfl w.heap.size #[.int .i64 0, .int .i64 0, .int .i64 0, .int .i64 0, .int .i64 0, .int .i64 0, .int .i64 0, .int .i64 0, .int .i64 0, .int .i64 0, .int .i64 0, .int .i64 0, .int .i64 0, .int .i64 0, .int .i64 0, .int .i64 0, .slice none 0 0] rfl rfl _ _ HZ0.out size_ses rfl (by simp [Value.oneCell']) ?_
    have HF := setRow_heap w0 w.heap.size _ #[.int .i64 0, .int .i64 0, .int .i64 0, .int .i64 0, .int .i64 0, .int .i64 0, .int .i64 0, .int .i64 0, .int .i64 0, .int .i64 0, .int .i64 0, .int .i64 0, .int .i64 0, .int .i64 0, .int .i64 0, .int .i64 0, .slice none 0 0] _ _ HZ0.out
    have HB9 : Below w.heap.size w (w0.setRow w.heap.size #[.int .i64 0, .int .i64 0, .int .i64 0, .int .i64 0, .int .i64 0, .int .i64 0, .int .i64 0, .int .i64 0, .int .i64 0, .int .i64 0, .int .i64 0, .int .i64 0, .int .i64 0, .int .i64 0, .int .i64 0, .int .i64 0, .slice none 0 0]) := below_row HB0.out (Nat.le_refl _)
    go_wp2_with fail
    refine bodyPost_ret_by (results_cell_row2 rfl _ _ w.heap.size 76 _ (0, 0) _ rfl HF Try.underlying76 rfl size_ses) rfl ?_
    exact LdR.no HB9 HX.out
  have q3 : ((x3 : Int) != 1) = false := by simp; omega
  have HHd := Lib.hid (show ¬ (l.length < 9 ∨ l.take 4 ≠ [82, 67, 76, 1]) by
    rw [HT4.out, z0, z1, z2, z3, HLen.out]
    rintro (hh | hh)
    · omega
    · exact hh rfl)
  have HLg := Lib.hid (show ¬ 4194304 < l.length by rw [HLen.out]; exact hlong)
  obtain ⟨E, hE⟩ : ∃ E, n = E + 4 := ⟨n - 4, by omega⟩
  subst hE
  clear z0 z1 z2 z3
  go_upto_region 5 with fail
  clear q0 q1 q2 q3 m0 m1 m2 m3 c1 c2 c3 d1 d2 d3
  obtain ⟨C, hC⟩ : ∃ C, C = crcS (l.take E) := ⟨_, rfl⟩
  have HSum : Hid (∀ W, Below w.heap.size w W → Calls Try.prog 35 #[.slice (some ⟨b, o, none⟩) E k] W (fun e w' => e = .returned (.int .u32 C) ∧ w' = W)) := fun W hB => by
    rw [hC]
    refine rsum_any (some ⟨b, o, none⟩) E k (l.take E) W w.heap.size ?_ ⟨by omega, HK.out⟩ (fun x hx => HL8.out x (List.mem_of_mem_take hx))
    refine ⟨by rw [u8s_len, List.length_take, HLen.out]; omega, fun _ => ⟨b, o, rfl, hb, fun j u hu => ?_⟩⟩
    obtain ⟨x, hx, rfl⟩ : ∃ x, l[j]? = some x ∧ u = .int .u8 x := by
      simp only [u8s, List.getElem?_map, List.getElem?_take] at hu
      split at hu
      · cases hq : l[j]? with
        | none => rw [hq] at hu; cases hu
        | some x => rw [hq] at hu; injection hu with hu; exact ⟨x, rfl, hu.symm⟩
      · cases hu
    exact (hB.cell (p := ⟨b, o + j, none⟩) hb).trans (HCell.out j x hx)
  have HCC := Lib.hid hC
  have hClt : C < 4294967296 := by rw [hC]; exact crcS_lt _
  clear hC
  have v1 : (4 : Int) ≤ E + 4 := by omega
  have v2 : (E : Int) ≤ k := by omega
  have v3 : E ≤ k := by omega
  go_wp2_with fail
  refine (HSum.out _ HB0.out).mono ?_
  rintro e wq ⟨rfl, hwq⟩
  replace hwq := hwq.symm
  subst hwq
  go_wp2_with fail
  go_loopg [5, 6] 4 (fun gk v0 i wr => ∃ (j Q : Nat), j + gk = 4 ∧ i = .int .i64 j ∧ v0 = .int .u32 Q ∧ w0 = wr ∧ Q < 4294967296 ∧ Hid (Q = C / 256 ^ j) ∧ Hid (∀ i, i < j → l[E + i]? = some (C / 256 ^ i % 256)))
  case atStart => exact ⟨0, C, by omega, rfl, rfl, rfl, hClt, by rw [Nat.pow_zero, Nat.div_one]; rfl, fun i hi => by omega⟩
  case round =>
    obtain ⟨j, Q, hj, rfl, rfl, rfl, hQ, HQ, HPre⟩ := hrel
    by_cases hlt : j < 4
    · obtain ⟨y, gy⟩ := at_lt (show E + j < l.length by rw [HLen.out]; omega)
      have ny : w0.cell? ⟨b, o + (E + j), none⟩ = some (.int .u8 y) := (HB0.out.cell (p := ⟨b, o + (E + j), none⟩) hb).trans (HCell.out _ y gy)
      have hy := HL8.out y (List.mem_of_getElem? gy)
      have e1 : (j : Int) < 4 := by omega
      have e0 : (0 : Int) ≤ j := by omega
      have w1 : IntKind.i64.wrap ((E : Int) + j) = (E : Int) + j := IntWalk.i64_in _ (by omega)
      have w2 : (0 : Int) ≤ (E : Int) + j := by omega
      have w3 : (E : Int) + j < (E : Int) + 4 := by omega
      have w4 : ((E : Int) + j).toNat = E + j := by omega
      have HG := Lib.hid gy
      clear gy
      by_cases hne : y = Q % 256
      · have b1 : ((y : Int) != (Q : Int) % 256) = false := by simp; omega
        have HPre2 : Hid (∀ i, i < j + 1 → l[E + i]? = some (C / 256 ^ i % 256)) := fun i hi => by
          by_cases hij : i = j
          · rw [hij, HG.out, hne, HQ.out]
          · exact HPre.out i (by omega)
        have HQ2 : Hid (Q / 256 = C / 256 ^ (j + 1)) := by rw [HQ.out, Nat.div_div_eq_div_mul]; rfl
        have b2 : IntKind.u32.wrap ((Q : Int) / 256) = ((Q / 256 : Nat) : Int) := by
          rw [IntKind.wrap_u32']
          omega
        clear hne
        go_wp2_with fail
        go_roundg (gk - 1)
        case measure => omega
        case rel => exact ⟨j + 1, Q / 256, by omega, by go_num, by go_num, rfl, by omega, HQ2.out, HPre2.out⟩
      · have b1 : ((y : Int) != (Q : Int) % 256) = true := by simp; omega
        have HX := Lib.hid (loadR_inl (head_sum HLg.out HHd.out (by rw [HLen.out, Nat.add_sub_cancel, ← HCC.out]; exact sum_ne HG.out hlt (by rw [← HQ.out]; exact hne))))
        clear hne
        go_upto_region 11 with fail
        refine wp_region_lit ?_
        refine Go.wpList_buildTo rfl 76 #[] rfl _ rfl #[.int .i64 0, .int .i64 0, .int .i64 0, .int .i64 0, .int .i64 0, .int .i64 0, .int .i64 0, .int .i64 0, .int .i64 0, .int .i64 0, .int .i64 0, .int .i64 0, .int .i64 0, .int .i64 0, .int .i64 0, .int .i64 0, .slice none 0 0] (by kernel_rfl) ?_
        refine wpList_store_row rfl _ _ _ rfl w.heap.size #[.int .i64 0, .int .i64 0, .int .i64 0, .int .i64 0, .int .i64 0, .int .i64 0, .int .i64 0, .int .i64 0, .int .i64 0, .int .i64 0, .int .i64 0, .int .i64 0, .int .i64 0, .int .i64 0, .int .i64 0, .int .i64 0, .slice none 0 0] rfl rfl _ _ HZ0.out size_ses rfl (by simp [Value.oneCell']) ?_
        have HF := setRow_heap w0 w.heap.size _ #[.int .i64 0, .int .i64 0, .int .i64 0, .int .i64 0, .int .i64 0, .int .i64 0, .int .i64 0, .int .i64 0, .int .i64 0, .int .i64 0, .int .i64 0, .int .i64 0, .int .i64 0, .int .i64 0, .int .i64 0, .int .i64 0, .slice none 0 0] _ _ HZ0.out
        have HB9 : Below w.heap.size w (w0.setRow w.heap.size #[.int .i64 0, .int .i64 0, .int .i64 0, .int .i64 0, .int .i64 0, .int .i64 0, .int .i64 0, .int .i64 0, .int .i64 0, .int .i64 0, .int .i64 0, .int .i64 0, .int .i64 0, .int .i64 0, .int .i64 0, .int .i64 0, .slice none 0 0]) := below_row HB0.out (Nat.le_refl _)
        go_wp2_with fail
        refine bodyPost_ret_by (results_cell_row2 rfl _ _ w.heap.size 76 _ (0, 0) _ rfl HF Try.underlying76 rfl size_ses) rfl ?_
        exact LdR.no HB9 HX.out
    · obtain rfl : j = 4 := by omega
      have HSumOk := Lib.hid (show ¬ (l.drop (l.length - 4) ≠ leB (crcS (l.take (l.length - 4))) 4) by
        rw [HLen.out, Nat.add_sub_cancel, ← HCC.out]
        exact fun he => he (sum_eq HLen.out HPre.out))
      clear HSum
      obtain ⟨kk, g4⟩ := at_lt (show 4 < l.length by rw [HLen.out]; omega)
      have m4 : w0.cell? ⟨b, o + 4, none⟩ = some (.int .u8 kk) := (HB0.out.cell (p := ⟨b, o + 4, none⟩) hb).trans (HCell.out _ kk g4)
      have hkk := HL8.out kk (List.mem_of_getElem? g4)
      have HG4 := Lib.hid (show l[4]?.getD 0 = kk by rw [g4]; rfl)
      have e4 : (4 : Int) < (E : Int) + 4 := by omega
      clear g4
      go_wp2_with fail
      refine (many28_any kk _).mono ?_
      rintro e wq ⟨rfl, hwq⟩
      replace hwq := hwq.symm
      subst hwq
      obtain ⟨MM, hMM⟩ : ∃ M, M = manyN kk := ⟨_, rfl⟩
      rw [← hMM]
      have HMM := Lib.hid hMM
      have hM7 : MM ≤ 7 := by rw [hMM]; exact many_le _
      clear hMM m4
      by_cases hM0 : MM = 0
      · have q1 : ((MM : Int) == 0) = true := by simp; omega
        have HX := Lib.hid (loadR_inl (head_kind HLg.out HHd.out HSumOk.out (by rw [HG4.out, ← HMM.out]; exact hM0)))
        clear hM0
        go_upto_region 15 with fail
        refine wp_region_lit ?_
        refine Go.wpList_buildTo rfl 76 #[] rfl _ rfl #[.int .i64 0, .int .i64 0, .int .i64 0, .int .i64 0, .int .i64 0, .int .i64 0, .int .i64 0, .int .i64 0, .int .i64 0, .int .i64 0, .int .i64 0, .int .i64 0, .int .i64 0, .int .i64 0, .int .i64 0, .int .i64 0, .slice none 0 0] (by kernel_rfl) ?_
        refine wpList_store_row rfl _ _ _ rfl w.heap.size #[.int .i64 0, .int .i64 0, .int .i64 0, .int .i64 0, .int .i64 0, .int .i64 0, .int .i64 0, .int .i64 0, .int .i64 0, .int .i64 0, .int .i64 0, .int .i64 0, .int .i64 0, .int .i64 0, .int .i64 0, .int .i64 0, .slice none 0 0] rfl rfl _ _ HZ0.out size_ses rfl (by simp [Value.oneCell']) ?_
        have HF := setRow_heap w0 w.heap.size _ #[.int .i64 0, .int .i64 0, .int .i64 0, .int .i64 0, .int .i64 0, .int .i64 0, .int .i64 0, .int .i64 0, .int .i64 0, .int .i64 0, .int .i64 0, .int .i64 0, .int .i64 0, .int .i64 0, .int .i64 0, .int .i64 0, .slice none 0 0] _ _ HZ0.out
        have HB9 : Below w.heap.size w (w0.setRow w.heap.size #[.int .i64 0, .int .i64 0, .int .i64 0, .int .i64 0, .int .i64 0, .int .i64 0, .int .i64 0, .int .i64 0, .int .i64 0, .int .i64 0, .int .i64 0, .int .i64 0, .int .i64 0, .int .i64 0, .int .i64 0, .int .i64 0, .slice none 0 0]) := below_row HB0.out (Nat.le_refl _)
        go_wp2_with fail
        refine bodyPost_ret_by (results_cell_row2 rfl _ _ w.heap.size 76 _ (0, 0) _ rfl HF Try.underlying76 rfl size_ses) rfl ?_
        exact LdR.no HB9 HX.out
      have q1 : ((MM : Int) == 0) = false := by simp; omega
      have HK16 : Hid (1 ≤ kk ∧ kk ≤ 6) := by
        have h8 := HMM.out
        by_cases hk : 1 ≤ kk ∧ kk ≤ 6
        · exact hk
        · rw [show manyN kk = 0 by unfold manyN; rw [if_neg (by omega), if_neg (by omega)]] at h8
          exact absurd h8 hM0
      obtain ⟨d, hd⟩ : ∃ d, d = (l.take E).drop 5 := ⟨_, rfl⟩
      have HHead := Lib.hid (show headL l = .inr (kk, d) by
        unfold headL
        rw [if_neg HLg.out, if_neg HHd.out, if_neg HSumOk.out, HG4.out, if_neg (by rw [← HMM.out]; exact hM0), HLen.out, Nat.add_sub_cancel, hd])
      have HDl := Lib.hid (show d.length = E - 5 by rw [hd, List.length_drop, List.length_take, HLen.out]; omega)
      have HD8 := Lib.hid (show ∀ x ∈ d, x < 256 from fun x hx => HL8.out x (List.mem_of_mem_take (List.mem_of_mem_drop (by rw [← hd]; exact hx))))
      have HDs : Hid (∀ W, Below w.heap.size w W → Sl W w.heap.size 1 (some ⟨b, o + 5, none⟩) (E - 5) (u8s d)) := fun W hB => by
        refine ⟨by rw [u8s_len, HDl.out]; omega, fun _ => ⟨b, o + 5, rfl, hb, fun j u hu => ?_⟩⟩
        obtain ⟨x, hx, rfl⟩ : ∃ x, l[5 + j]? = some x ∧ u = .int .u8 x := by
          rw [hd] at hu
          simp only [u8s, List.getElem?_map, List.getElem?_drop, List.getElem?_take] at hu
          split at hu
          · cases hq : l[5 + j]? with
            | none => rw [hq] at hu; cases hu
            | some x => rw [hq] at hu; injection hu with hu; exact ⟨x, rfl, hu.symm⟩
          · cases hu
        rw [Nat.add_assoc]
        exact (hB.cell (p := ⟨b, o + (5 + j), none⟩) hb).trans (HCell.out _ x hx)
      have v4 : (5 : Int) ≤ E := by omega
      have v5 : 5 ≤ E := by omega
      have e5 : ((E : Int) == 4) = false := by simp; omega
      have e6 : decide (5 ≤ E) = true := by simp; omega
      clear hd hM0
      go_upto_region 17 with fail
      have HR3 : Hid (Blk (w0.alloc (.cells #[.slice (some ⟨b, o + 5, none⟩) (E - 5) (k - 5), .bool false] 190)) w0.heap.size 190 [.slice (some ⟨b, o + 5, none⟩) (E - 5) (k - 5), .bool false]) := Blk.new _ _ _
      have HZ3 : Hid (Blk (w0.alloc (.cells #[.slice (some ⟨b, o + 5, none⟩) (E - 5) (k - 5), .bool false] 190)) w.heap.size 76 [.int .i64 0, .int .i64 0, .int .i64 0, .int .i64 0, .int .i64 0, .int .i64 0, .int .i64 0, .int .i64 0, .int .i64 0, .int .i64 0, .int .i64 0, .int .i64 0, .int .i64 0, .int .i64 0, .int .i64 0, .int .i64 0, .slice none 0 0]) := HZ0.out.alloc _
      have HB3 : Hid (Below w.heap.size w (w0.alloc (.cells #[.slice (some ⟨b, o + 5, none⟩) (E - 5) (k - 5), .bool false] 190))) := HB0.out.alloc HB0.out.size _
      generalize w0.alloc (.cells #[.slice (some ⟨b, o + 5, none⟩) (E - 5) (k - 5), .bool false] 190) = w3 at HR3 HZ3 HB3 ⊢
      obtain ⟨gr, hgr⟩ : ∃ gr, gr = w0.heap.size := ⟨_, rfl⟩
      have hgrw : w.heap.size < gr := by rw [hgr]; exact hz0
      rw [← hgr] at HR3 ⊢
      have HRd3 : Hid (RdAt w3 w.heap.size gr 190 (some ⟨b, o + 5, none⟩) (E - 5) (k - 5) (d, false)) := ⟨HR3.out, HDs.out w3 HB3.out, by omega, by have := HK.out; omega, HD8.out⟩
      have hgr3 := HR3.out.lt
      obtain ⟨Bm, hBm⟩ : ∃ Bm, Bm = w3.heap.size := ⟨_, rfl⟩
      have hBm2 : Bm ≤ w3.heap.size := by omega
      have hBm3 : gr < Bm := by omega
      clear hgr hgr3 hBm HR3 q1
      go_wp2_with fail
      go_loopg [9, 10] MM (fun gk v0 i wr => ∃ (q : Nat) (A' : Option Addr) (n' k' : Nat) (v : Value), q + gk = MM ∧ i = .int .i64 q ∧ v = v0 ∧ Bm ≤ wr.heap.size ∧ Hid (RdAt wr w.heap.size gr 190 A' n' k' (numsG cntT q (d, false)).2) ∧
        Hid (wr.ownsRow Bm 3 1 v q (natsV (numsG cntT q (d, false)).1)) ∧ Hid (Blk wr w.heap.size 76 [.int .i64 0, .int .i64 0, .int .i64 0, .int .i64 0, .int .i64 0, .int .i64 0, .int .i64 0, .int .i64 0, .int .i64 0, .int .i64 0, .int .i64 0, .int .i64 0, .int .i64 0, .int .i64 0, .int .i64 0, .int .i64 0, .slice none 0 0]) ∧ Hid (Below w.heap.size w wr) ∧ Hid ((numsG cntT q (d, false)).1.length = q))
      case atStart => exact ⟨0, _, _, _, _, by omega, rfl, rfl, hBm2, HRd3, World.ownsRow_nil _ _ _ _, HZ3, HB3, rfl⟩
      case round =>
        obtain ⟨q, A', n', k', v, hq, rfl, rfl, hBr, HRd, HOw, HZz, HBb, HNq⟩ := hrel
        go_wp2_with fail
        refine (many28_any kk _).mono ?_
        rintro e wq ⟨rfl, hwq⟩
        replace hwq := hwq.symm
        subst hwq
        rw [← HMM.out]
        by_cases hlt : q < MM
        · have e1 : (q : Int) < MM := by omega
          have e0 : (0 : Int) ≤ q := by omega
          have e2 : decide (q < MM) = true := by simp; omega
          obtain ⟨S, hS⟩ : ∃ S, S = (numsG cntT q (d, false)).2 := ⟨_, rfl⟩
          have HSS := Lib.hid hS
          have HCall : Hid (Calls Try.prog 85 #[.pointer (some ⟨gr, 0, none⟩)] wr (RNumR w.heap.size gr (numG cntT S).1 (numG cntT S).2 wr)) := by
            rw [hS]
            exact rrdnumber_any w.heap.size gr A' n' k' _ wr HRd.out (by omega)
          obtain ⟨z, hz⟩ : ∃ z, z = (numG cntT S).1 := ⟨_, rfl⟩
          have HZv := Lib.hid hz
          rw [← hz] at HCall
          clear hS hz
          go_wp2_with fail
          refine HCall.out.mono ?_
          rintro e w5 ⟨A5, n5, k5, rfl, hr5, hg5⟩
          have HRd5 := Lib.hid hr5
          have HZ5 := Lib.hid (HZz.out.grown hg5 (by intro he; injection he with he; omega))
          have HB5 := Lib.hid (HBb.out.grown hg5 HBb.out.size (fun x hx => by injection hx with hx; omega))
          have HO5 := Lib.hid (HOw.out.kept hg5 (ownne' HOw.out (by omega)))
          have hz5 := hg5.size
          have hzB : Bm ≤ w5.heap.size := by omega
          clear hr5 hg5
          go_wp2_with (at_builtin; go_must (refine wpList_app _ rfl _ _ 30 rfl Bm 3 i0 (.int .i64 0) 1 8 Try.underlying30 hi0 hi0z hi0s hi0b rfl (by decide) v q _ rfl (HO5.out.alloc _) (w5.heap.size + 1) (some ⟨w5.heap.size, 0, none⟩) 1 1 [.int .i64 z] rfl (((Blk.new w5 3 _).sl rfl).up (by simp)) nat_one (q + 1) rfl _ rfl _ rfl (by simp only [maxLen]; omega) (by omega) (by rw [World.size_alloc]; omega) ?_; intro A7 k7 u7 hown7 hg7 hat7 hk7 hk8; have HZ7 := Lib.hid ((HZ5.out.alloc _).grown hg7 (ownne HO5.out (by omega))); have HB7 := Lib.hid ((HB5.out.alloc HB5.out.size _).grown hg7 (by rw [World.size_alloc]; have := HB5.out.size; omega) (fun x hx => by have := (HO5.out.lt x hx).1; omega)); have HR7 := Lib.hid ((HRd5.out.below ((Below.refl _ _).alloc (Nat.le_refl _) _)).gb hg7 (fun x hx => by have := (HO5.out.lt x hx).1; omega)); have HO7 := Lib.hid hown7; have hz7 := hg7.size; rw [World.size_alloc] at hz7; clear hown7 hg7 hat7 HZ5 HB5 HO5 HRd5))
          go_roundg (gk - 1)
          case measure => omega
          case rel =>
            refine ⟨q + 1, A5, n5, k5, .slice A7 (q + 1) k7, by omega, by go_num, rfl, by omega, ?_, ?_, HZ7, HB7, ?_⟩
            · have h8 := HR7.out
              rw [HSS.out] at h8
              exact h8
            · have h8 := HO7.out
              rw [HZv.out, HSS.out] at h8
              show World.ownsRow _ _ _ _ _ _ (natsV (_ ++ [_]))
              rw [natsV_app]
              exact h8
            · show List.length ((numsG cntT q (d, false)).1 ++ [_]) = q + 1
              rw [List.length_append, HNq.out]
              rfl
        · obtain rfl : q = MM := by omega
          obtain ⟨p, hp⟩ : ∃ p, p = numsG cntT q (d, false) := ⟨_, rfl⟩
          rw [← hp] at HRd HOw HNq
          obtain ⟨nl, S1⟩ := p
          have HP := Lib.hid hp
          have HQm := Lib.hid (show q = manyN kk from HMM.out)
          have HRr : Hid (RdAt wr w.heap.size gr 190 A' n' k' S1) := HRd
          have HOr : Hid (wr.ownsRow Bm 3 1 v q (natsV nl)) := HOw
          have HNr : Hid (nl.length = q) := HNq
          have HLe := Lib.hid (show S1.1.length ≤ 4194304 by
            have h9 := numsT_le (d, false) q
            rw [← HP.out] at h9
            have h8 := HDl.out
            have h7 := HLg.out
            rw [HLen.out] at h7
            simp only at h9
            omega)
          clear hp HRd HOw HNq
          obtain ⟨A9, k9, rfl, h9a, h9b⟩ := own_form HOr.out
          obtain ⟨c, hc⟩ : ∃ c, c = numG cntT S1 := ⟨_, rfl⟩
          have HCall : Hid (Calls Try.prog 85 #[.pointer (some ⟨gr, 0, none⟩)] wr (RNumR w.heap.size gr (numG cntT S1).1 (numG cntT S1).2 wr)) := rrdnumber_any w.heap.size gr A' n' k' _ wr HRr.out (by omega)
          rw [← hc] at HCall
          have HLe2 := Lib.hid (show c.2.1.length ≤ 4194304 by rw [hc]; exact Nat.le_trans (numT_le _) HLe.out)
          obtain ⟨z, S2⟩ := c
          have HGo := Lib.hid (loadR_go HHead.out (by rw [← HQm.out]; exact HP.out.symm) hc.symm)
          have e3 : decide (q < q) = false := by simp
          clear hc
          go_wp2_with fail
          refine HCall.out.mono ?_
          rintro e w5 ⟨A5, n5, k5, rfl, hr5, hg5⟩
          have HRd5 := Lib.hid hr5
          have HZ5 := Lib.hid (HZz.out.grown hg5 (by intro he; injection he with he; omega))
          have HB5 := Lib.hid (HBb.out.grown hg5 HBb.out.size (fun x hx => by injection hx with hx; omega))
          have HO5 := Lib.hid (HOr.out.kept hg5 (ownne' HOr.out (by omega)))
          have hz5 := hg5.size
          clear hr5 hg5
          obtain ⟨L2, bad⟩ := S2
          have c1 : w5.cell? ⟨gr, 1, none⟩ = some (.bool bad) := HRd5.out.blk.cell rfl
          have HL2 : Hid (n5 = L2.length) := HRd5.out.len.symm
          have hL3 : n5 ≤ 4194304 := by rw [HL2.out]; exact HLe2.out
          by_cases hbad : bad = true
          · subst hbad
            have HX := Lib.hid (show loadR l = noLd 281 by rw [HGo.out, if_pos rfl])
            go_upto_region 24 with fail
            refine wp_region_lit ?_
            refine Go.wpList_buildTo rfl 76 #[] rfl _ rfl #[.int .i64 0, .int .i64 0, .int .i64 0, .int .i64 0, .int .i64 0, .int .i64 0, .int .i64 0, .int .i64 0, .int .i64 0, .int .i64 0, .int .i64 0, .int .i64 0, .int .i64 0, .int .i64 0, .int .i64 0, .int .i64 0, .slice none 0 0] (by kernel_rfl) ?_
            refine wpList_store_row rfl _ _ _ rfl w.heap.size #[.int .i64 0, .int .i64 0, .int .i64 0, .int .i64 0, .int .i64 0, .int .i64 0, .int .i64 0, .int .i64 0, .int .i64 0, .int .i64 0, .int .i64 0, .int .i64 0, .int .i64 0, .int .i64 0, .int .i64 0, .int .i64 0, .slice none 0 0] rfl rfl _ _ HZ5.out size_ses rfl (by simp [Value.oneCell']) ?_
            have HF := setRow_heap w5 w.heap.size _ #[.int .i64 0, .int .i64 0, .int .i64 0, .int .i64 0, .int .i64 0, .int .i64 0, .int .i64 0, .int .i64 0, .int .i64 0, .int .i64 0, .int .i64 0, .int .i64 0, .int .i64 0, .int .i64 0, .int .i64 0, .int .i64 0, .slice none 0 0] _ _ HZ5.out
            have HB9 : Below w.heap.size w (w5.setRow w.heap.size #[.int .i64 0, .int .i64 0, .int .i64 0, .int .i64 0, .int .i64 0, .int .i64 0, .int .i64 0, .int .i64 0, .int .i64 0, .int .i64 0, .int .i64 0, .int .i64 0, .int .i64 0, .int .i64 0, .int .i64 0, .int .i64 0, .slice none 0 0]) := below_row HB5.out (Nat.le_refl _)
            go_wp2_with fail
            refine bodyPost_ret_by (results_cell_row2 rfl _ _ w.heap.size 76 _ (0, 0) _ rfl HF Try.underlying76 rfl size_ses) rfl ?_
            exact LdR.no HB9 HX.out
          obtain rfl : bad = false := by simpa using hbad
          clear hbad
          have HTl := Lib.hid (show loadR l = tailL kk nl z (mvsG cntT z (L2, false)) by
            rw [HGo.out, if_neg (by intro h9; cases h9)])
          have HMade : Hid (Calls Try.prog 86 #[.int .i64 kk, .slice A9 q k9] w5 (MadR (madeS kk nl) w5)) := by
            have h9 := made_any kk k9 nl A9 w5 HK16.out (HNr.out.trans HQm.out) (by rw [HNr.out]; exact Sl.of_own HO5.out)
            rw [HNr.out] at h9
            exact h9
          obtain ⟨SS, hSS⟩ : ∃ s, s = madeS kk nl := ⟨_, rfl⟩
          rw [← hSS] at HMade
          have HSSd := Lib.hid hSS
          clear hSS HCall HOr HRr
          go_wp2_with fail
          refine HMade.out.mono ?_
          rintro e w6 ⟨rfl, hb6⟩
          have HRd6 := Lib.hid (HRd5.out.below hb6)
          have HZ6 := Lib.hid (HZ5.out.below hb6 HZ5.out.lt)
          have HB6 := Lib.hid (HB5.out.trans (hb6.mono HB5.out.size))
          have hgr6 := HRd6.out.blk.lt
          clear hb6 HMade HRd5 HZ5 HB5 HO5 c1
          go_upto_region 26 with fail
          have HS7 : Hid (Blk (w6.alloc (.cells (sesL SS (.slice none 0 0)).toArray 76)) w6.heap.size 76 (sesL SS (.slice none 0 0))) := Blk.new _ _ _
          have HZ7 := Lib.hid (HZ6.out.alloc (.cells (sesL SS (.slice none 0 0)).toArray 76))
          have HB7 := Lib.hid (HB6.out.alloc HB6.out.size (.cells (sesL SS (.slice none 0 0)).toArray 76))
          have HRd7 := Lib.hid (HRd6.out.below ((Below.refl w6.heap.size w6).alloc (Nat.le_refl _) (.cells (sesL SS (.slice none 0 0)).toArray 76)))
          have hz7 : (w6.alloc (.cells (sesL SS (.slice none 0 0)).toArray 76)).heap.size = w6.heap.size + 1 := World.size_alloc ..
          generalize w6.alloc (.cells (sesL SS (.slice none 0 0)).toArray 76) = w7 at HS7 HZ7 HB7 HRd7 hz7 ⊢
          obtain ⟨gs, hgs⟩ : ∃ g, g = w6.heap.size := ⟨_, rfl⟩
          rw [← hgs] at HS7 hgr6 hz7 ⊢
          obtain ⟨Bx, hBx⟩ : ∃ B, B = w7.heap.size := ⟨_, rfl⟩
          have hBx1 : gs < Bx := by omega
          have hBx2 : Bx ≤ w7.heap.size := by omega
          have hgs1 : w.heap.size < gs := by omega
          have HGd : Hid ((mvsG cntT 0 (L2, false)).2.2 = false) := rfl
          have HRd7' : Hid (RdAt w7 w.heap.size gr 190 A5 n5 k5 (mvsG cntT 0 (L2, false)).2) := HRd7.out
          have hq7 : q ≤ 7 := hM7
          clear hgs hBx hz7 HRd7 hz5 hBr
          obtain ⟨wo, rfl⟩ : ∃ wo : World, wo = wr := ⟨_, rfl⟩
          obtain ⟨go, rfl⟩ : ∃ go : Nat, go = gk := ⟨_, rfl⟩
          go_wp2_with fail
          go_loopg [13] z (fun gk i wr => ∃ (q : Nat) (A' : Option Addr) (n' k' : Nat) (v : Value), q + gk = z ∧ i = .int .i64 q ∧ Bx ≤ wr.heap.size ∧ Hid ((mvsG cntT q (L2, false)).2.2 = false) ∧ Hid (RdAt wr w.heap.size gr 190 A' n' k' (mvsG cntT q (L2, false)).2) ∧ Hid (Blk wr gs 76 (sesL SS v)) ∧
            Hid (wr.ownsRow Bx 95 4 v q (mvVals (mvsG cntT q (L2, false)).1)) ∧ Hid (Blk wr w.heap.size 76 [.int .i64 0, .int .i64 0, .int .i64 0, .int .i64 0, .int .i64 0, .int .i64 0, .int .i64 0, .int .i64 0, .int .i64 0, .int .i64 0, .int .i64 0, .int .i64 0, .int .i64 0, .int .i64 0, .int .i64 0, .int .i64 0, .slice none 0 0]) ∧ Hid (Below w.heap.size w wr))
          case atStart => exact ⟨0, A5, n5, k5, _, by omega, rfl, hBx2, HGd, HRd7', HS7, World.ownsRow_nil _ _ _ _, HZ7, HB7⟩
          case round =>
            obtain ⟨p, A', n', k', v, hp, rfl, hBr, HGp, HRp0, HSs, HOw, HZz, HBb⟩ := hrel
            have hp20 : p ≤ 1048576 := by
              have h9 := (mvsT_good p HGp.out).2
              have h8 := HL2.out
              simp only at h9
              omega
            by_cases hlt : p < z
            · skip
              have e1 : (p : Int) < z := by omega
              have e0 : (0 : Int) ≤ p := by omega
              obtain ⟨S0, hS0⟩ : ∃ S, S = (mvsG cntT p (L2, false)).2 := ⟨_, rfl⟩
              have HS0 := Lib.hid hS0
              rw [← hS0] at HRp0
              clear hS0
              have hgrr := HRp0.out.blk.lt
              have hgsr := HSs.out.lt
              obtain ⟨C1, hC1⟩ : ∃ C, C = cntT S0 := ⟨_, rfl⟩
              obtain ⟨V1, hV1⟩ : ∃ V, V = unsg C1.1 := ⟨_, rfl⟩
              obtain ⟨S1, hS1⟩ : ∃ S, S = C1.2 := ⟨_, rfl⟩
              have HC1 : Hid (Calls Try.prog 87 #[.pointer (some ⟨gr, 0, none⟩)] wr (RNumR w.heap.size gr V1 S1 wr)) := by
                rw [hV1, hS1, hC1]
                exact rrdsigned_any w.heap.size gr _ _ _ S0 wr HRp0.out (by omega)
              have HE1 := Lib.hid (⟨hC1, hV1, hS1⟩ : C1 = cntT S0 ∧ V1 = unsg C1.1 ∧ S1 = C1.2)
              clear hC1 hV1 hS1
              go_wp2_with fail
              refine HC1.out.mono ?_
              rintro e u1 ⟨B1, n1', k1', rfl, hr1, hg1⟩
              have HRu1 := Lib.hid hr1
              have HS1 := Lib.hid (HSs.out.grown hg1 (by intro he; injection he with he; omega))
              have HZ1 := Lib.hid (HZz.out.grown hg1 (by intro he; injection he with he; omega))
              have HB1 := Lib.hid (HBb.out.grown hg1 HBb.out.size (fun x hx => by injection hx with hx; omega))
              have HO1 := Lib.hid (HOw.out.kept hg1 (ownne' HOw.out (by omega)))
              have hsz1 := hg1.size
              have hsb1 : Bx ≤ u1.heap.size := by omega
              clear hr1 hg1 HC1
              go_upto_region 30 with fail
              have HM1 : Hid (Blk (u1.alloc (.cells #[.int .i64 V1, .int .i64 0, .int .i64 0, .int .i64 0] 95)) u1.heap.size 95 [.int .i64 V1, .int .i64 0, .int .i64 0, .int .i64 0]) := Blk.new _ _ _
              have HS1a := Lib.hid (HS1.out.alloc (.cells #[.int .i64 V1, .int .i64 0, .int .i64 0, .int .i64 0] 95))
              have HZ1a := Lib.hid (HZ1.out.alloc (.cells #[.int .i64 V1, .int .i64 0, .int .i64 0, .int .i64 0] 95))
              have HB1a := Lib.hid (HB1.out.alloc HB1.out.size (.cells #[.int .i64 V1, .int .i64 0, .int .i64 0, .int .i64 0] 95))
              have HO1a := Lib.hid (HO1.out.alloc (.cells #[.int .i64 V1, .int .i64 0, .int .i64 0, .int .i64 0] 95))
              have HRp1 := Lib.hid (HRu1.out.below ((Below.refl u1.heap.size u1).alloc (Nat.le_refl _) (.cells #[.int .i64 V1, .int .i64 0, .int .i64 0, .int .i64 0] 95)))
              have hza : (u1.alloc (.cells #[.int .i64 V1, .int .i64 0, .int .i64 0, .int .i64 0] 95)).heap.size = u1.heap.size + 1 := World.size_alloc ..
              have HVo : Hid (v.ownBlock = none ∨ v.ownBlock ≠ some u1.heap.size) := Or.inr fun he => by have := (HO1.out.lt _ he).2; omega
              generalize u1.alloc (.cells #[.int .i64 V1, .int .i64 0, .int .i64 0, .int .i64 0] 95) = a1 at HM1 HS1a HZ1a HB1a HO1a HRp1 hza ⊢
              obtain ⟨gm, hgm⟩ : ∃ g, g = u1.heap.size := ⟨_, rfl⟩
              rw [← hgm] at HM1 hza hsb1 HVo ⊢
              have hgmr : gr < gm := by have := HRu1.out.blk.lt; omega
              have hgms : gs < gm := by omega
              clear hgm HS1 HZ1 HB1 HO1 HRu1 hsz1
              obtain ⟨C2, hC2⟩ : ∃ C, C = cntT S1 := ⟨_, rfl⟩
              obtain ⟨V2, hV2⟩ : ∃ V, V = unsg C2.1 := ⟨_, rfl⟩
              obtain ⟨S2, hS2⟩ : ∃ S, S = C2.2 := ⟨_, rfl⟩
              have HC2 : Hid (Calls Try.prog 87 #[.pointer (some ⟨gr, 0, none⟩)] a1 (RNumR w.heap.size gr V2 S2 a1)) := by
                rw [hV2, hS2, hC2]
                exact rrdsigned_any w.heap.size gr _ _ _ S1 a1 HRp1.out (by omega)
              have HE2 := Lib.hid (⟨hC2, hV2, hS2⟩ : C2 = cntT S1 ∧ V2 = unsg C2.1 ∧ S2 = C2.2)
              clear hC2 hV2 hS2
              go_wp2_with fail
              refine HC2.out.mono ?_
              rintro e u2 ⟨B2, n2', k2', rfl, hr2, hg2⟩
              have HMu2 := Lib.hid (HM1.out.grown hg2 (by intro he; injection he with he; omega))
              have HSu2 := Lib.hid (HS1a.out.grown hg2 (by intro he; injection he with he; omega))
              have HZu2 := Lib.hid (HZ1a.out.grown hg2 (by intro he; injection he with he; omega))
              have HBu2 := Lib.hid (HB1a.out.grown hg2 HB1a.out.size (fun x hx => by injection hx with hx; omega))
              have HOu2 := Lib.hid (HO1a.out.kept hg2 (ownne' HO1a.out (by omega)))
              have hsz2 := hg2.size
              have HRu2 := Lib.hid hr2
              have fm2 := HMu2.out.frozen 1
              have cm2 : u2.cell? ⟨gm, 1, none⟩ = some (.int .i64 0) := HMu2.out.cell rfl
              clear hr2 hg2 HC2
              go_upto_region 31 with fail
              have hset2 : Hid (u2.grownBy (u2.setCell ⟨gm, 1, none⟩ (.int .i64 V2)) (some gm)) := gb_set (World.grownBy.refl u2 _) 1 _
              have HM2 : Hid (Blk (u2.setCell ⟨gm, 1, none⟩ (.int .i64 V2)) gm 95 [.int .i64 V1, .int .i64 V2, .int .i64 0, .int .i64 0]) := HMu2.out.set_ 1 _
              have HS2a := Lib.hid (HSu2.out.far (p := ⟨gm, 1, none⟩) (by dsimp only; omega) (.int .i64 V2))
              have HZ2a := Lib.hid (HZu2.out.far (p := ⟨gm, 1, none⟩) (by dsimp only; omega) (.int .i64 V2))
              have HB2a := Lib.hid (HBu2.out.setCell (p := ⟨gm, 1, none⟩) (by dsimp only; omega) (.int .i64 V2))
              have HO2a := Lib.hid (HOu2.out.kept hset2.out HVo.out)
              have HRp2 := Lib.hid (HRu2.out.set hset2.out (by omega) (by omega))
              have hse2 : u2.heap.size ≤ (u2.setCell ⟨gm, 1, none⟩ (.int .i64 V2)).heap.size := hset2.out.size
              clear hset2 fm2 cm2 HMu2 HSu2 HZu2 HBu2 HOu2 HRu2
              generalize u2.setCell ⟨gm, 1, none⟩ (.int .i64 V2) = a2 at HM2 HS2a HZ2a HB2a HO2a HRp2 hse2 ⊢
              clear HRp1 HM1 HS1a HZ1a HB1a HO1a
              obtain ⟨C3, hC3⟩ : ∃ C, C = cntT S2 := ⟨_, rfl⟩
              obtain ⟨V3, hV3⟩ : ∃ V, V = unsg C3.1 := ⟨_, rfl⟩
              obtain ⟨S3, hS3⟩ : ∃ S, S = C3.2 := ⟨_, rfl⟩
              have HC3 : Hid (Calls Try.prog 87 #[.pointer (some ⟨gr, 0, none⟩)] a2 (RNumR w.heap.size gr V3 S3 a2)) := by
                rw [hV3, hS3, hC3]
                exact rrdsigned_any w.heap.size gr _ _ _ S2 a2 HRp2.out (by omega)
              have HE3 := Lib.hid (⟨hC3, hV3, hS3⟩ : C3 = cntT S2 ∧ V3 = unsg C3.1 ∧ S3 = C3.2)
              clear hC3 hV3 hS3
              go_wp2_with fail
              refine HC3.out.mono ?_
              rintro e u3 ⟨B3, n3', k3', rfl, hr3, hg3⟩
              have HMu3 := Lib.hid (HM2.out.grown hg3 (by intro he; injection he with he; omega))
              have HSu3 := Lib.hid (HS2a.out.grown hg3 (by intro he; injection he with he; omega))
              have HZu3 := Lib.hid (HZ2a.out.grown hg3 (by intro he; injection he with he; omega))
              have HBu3 := Lib.hid (HB2a.out.grown hg3 HB2a.out.size (fun x hx => by injection hx with hx; omega))
              have HOu3 := Lib.hid (HO2a.out.kept hg3 (ownne' HO2a.out (by omega)))
              have hsz3 := hg3.size
              have HRu3 := Lib.hid hr3
              have fm3 := HMu3.out.frozen 2
              have cm3 : u3.cell? ⟨gm, 2, none⟩ = some (.int .i64 0) := HMu3.out.cell rfl
              clear hr3 hg3 HC3
              go_upto_region 32 with fail
              have hset3 : Hid (u3.grownBy (u3.setCell ⟨gm, 2, none⟩ (.int .i64 V3)) (some gm)) := gb_set (World.grownBy.refl u3 _) 2 _
              have HM3 : Hid (Blk (u3.setCell ⟨gm, 2, none⟩ (.int .i64 V3)) gm 95 [.int .i64 V1, .int .i64 V2, .int .i64 V3, .int .i64 0]) := HMu3.out.set_ 2 _
              have HS3a := Lib.hid (HSu3.out.far (p := ⟨gm, 2, none⟩) (by dsimp only; omega) (.int .i64 V3))
              have HZ3a := Lib.hid (HZu3.out.far (p := ⟨gm, 2, none⟩) (by dsimp only; omega) (.int .i64 V3))
              have HB3a := Lib.hid (HBu3.out.setCell (p := ⟨gm, 2, none⟩) (by dsimp only; omega) (.int .i64 V3))
              have HO3a := Lib.hid (HOu3.out.kept hset3.out HVo.out)
              have HRp3 := Lib.hid (HRu3.out.set hset3.out (by omega) (by omega))
              have hse3 : u3.heap.size ≤ (u3.setCell ⟨gm, 2, none⟩ (.int .i64 V3)).heap.size := hset3.out.size
              clear hset3 fm3 cm3 HMu3 HSu3 HZu3 HBu3 HOu3 HRu3
              generalize u3.setCell ⟨gm, 2, none⟩ (.int .i64 V3) = a3 at HM3 HS3a HZ3a HB3a HO3a HRp3 hse3 ⊢
              clear HRp2 HM2 HS2a HZ2a HB2a HO2a
              obtain ⟨C4, hC4⟩ : ∃ C, C = cntT S3 := ⟨_, rfl⟩
              obtain ⟨V4, hV4⟩ : ∃ V, V = unsg C4.1 := ⟨_, rfl⟩
              obtain ⟨S4, hS4⟩ : ∃ S, S = C4.2 := ⟨_, rfl⟩
              have HC4 : Hid (Calls Try.prog 87 #[.pointer (some ⟨gr, 0, none⟩)] a3 (RNumR w.heap.size gr V4 S4 a3)) := by
                rw [hV4, hS4, hC4]
                exact rrdsigned_any w.heap.size gr _ _ _ S3 a3 HRp3.out (by omega)
              have HE4 := Lib.hid (⟨hC4, hV4, hS4⟩ : C4 = cntT S3 ∧ V4 = unsg C4.1 ∧ S4 = C4.2)
              clear hC4 hV4 hS4
              go_wp2_with fail
              refine HC4.out.mono ?_
              rintro e u4 ⟨B4, n4', k4', rfl, hr4, hg4⟩
              have HMu4 := Lib.hid (HM3.out.grown hg4 (by intro he; injection he with he; omega))
              have HSu4 := Lib.hid (HS3a.out.grown hg4 (by intro he; injection he with he; omega))
              have HZu4 := Lib.hid (HZ3a.out.grown hg4 (by intro he; injection he with he; omega))
              have HBu4 := Lib.hid (HB3a.out.grown hg4 HB3a.out.size (fun x hx => by injection hx with hx; omega))
              have HOu4 := Lib.hid (HO3a.out.kept hg4 (ownne' HO3a.out (by omega)))
              have hsz4 := hg4.size
              have HRu4 := Lib.hid hr4
              have fm4 := HMu4.out.frozen 3
              have cm4 : u4.cell? ⟨gm, 3, none⟩ = some (.int .i64 0) := HMu4.out.cell rfl
              clear hr4 hg4 HC4
              go_upto_region 33 with fail
              have hset4 : Hid (u4.grownBy (u4.setCell ⟨gm, 3, none⟩ (.int .i64 V4)) (some gm)) := gb_set (World.grownBy.refl u4 _) 3 _
              have HM4 : Hid (Blk (u4.setCell ⟨gm, 3, none⟩ (.int .i64 V4)) gm 95 [.int .i64 V1, .int .i64 V2, .int .i64 V3, .int .i64 V4]) := HMu4.out.set_ 3 _
              have HS4a := Lib.hid (HSu4.out.far (p := ⟨gm, 3, none⟩) (by dsimp only; omega) (.int .i64 V4))
              have HZ4a := Lib.hid (HZu4.out.far (p := ⟨gm, 3, none⟩) (by dsimp only; omega) (.int .i64 V4))
              have HB4a := Lib.hid (HBu4.out.setCell (p := ⟨gm, 3, none⟩) (by dsimp only; omega) (.int .i64 V4))
              have HO4a := Lib.hid (HOu4.out.kept hset4.out HVo.out)
              have HRp4 := Lib.hid (HRu4.out.set hset4.out (by omega) (by omega))
              have hse4 : u4.heap.size ≤ (u4.setCell ⟨gm, 3, none⟩ (.int .i64 V4)).heap.size := hset4.out.size
              clear hset4 fm4 cm4 HMu4 HSu4 HZu4 HBu4 HOu4 HRu4
              generalize u4.setCell ⟨gm, 3, none⟩ (.int .i64 V4) = a4 at HM4 HS4a HZ4a HB4a HO4a HRp4 hse4 ⊢
              clear HRp3 HM3 HS3a HZ3a HB3a HO3a

              have c1 : a4.cell? ⟨gr, 1, none⟩ = some (.bool S4.2) := HRp4.out.blk.cell rfl
              have HEq : Hid ((mvsG cntT (p + 1) (L2, false)).2 = S4 ∧ (mvsG cntT (p + 1) (L2, false)).1 = (mvsG cntT p (L2, false)).1 ++ [⟨V1, V2, V3, V4⟩]) := by
                rw [HE4.out.2.2, HE4.out.2.1, HE4.out.1, HE3.out.2.2, HE3.out.2.1, HE3.out.1, HE2.out.2.2, HE2.out.2.1, HE2.out.1, HE1.out.2.2, HE1.out.2.1, HE1.out.1, HS0.out]
                exact ⟨rfl, rfl⟩
              obtain ⟨L4, bad4⟩ := S4
              clear HE1 HE2 HE3 HE4 HS0
              by_cases hbad : bad4 = true
              · subst hbad
                have HX := Lib.hid (show loadR l = noLd 281 by
                  have h9 := mvsT_bad (k := p + 1) (s := (L2, false)) (by rw [HEq.out.1]) (gk - 1)
                  rw [show p + 1 + (gk - 1) = z by omega] at h9
                  rw [HTl.out]
                  unfold tailL
                  rw [if_pos (Or.inl h9)])
                go_upto_region 34 with fail
                refine wp_region_lit ?_
                refine Go.wpList_buildTo rfl 76 #[] rfl _ rfl #[.int .i64 0, .int .i64 0, .int .i64 0, .int .i64 0, .int .i64 0, .int .i64 0, .int .i64 0, .int .i64 0, .int .i64 0, .int .i64 0, .int .i64 0, .int .i64 0, .int .i64 0, .int .i64 0, .int .i64 0, .int .i64 0, .slice none 0 0] (by kernel_rfl) ?_
                refine wpList_store_row rfl _ _ _ rfl w.heap.size #[.int .i64 0, .int .i64 0, .int .i64 0, .int .i64 0, .int .i64 0, .int .i64 0, .int .i64 0, .int .i64 0, .int .i64 0, .int .i64 0, .int .i64 0, .int .i64 0, .int .i64 0, .int .i64 0, .int .i64 0, .int .i64 0, .slice none 0 0] rfl rfl _ _ HZ4a.out size_ses rfl (by simp [Value.oneCell']) ?_
                have HF := setRow_heap a4 w.heap.size _ #[.int .i64 0, .int .i64 0, .int .i64 0, .int .i64 0, .int .i64 0, .int .i64 0, .int .i64 0, .int .i64 0, .int .i64 0, .int .i64 0, .int .i64 0, .int .i64 0, .int .i64 0, .int .i64 0, .int .i64 0, .int .i64 0, .slice none 0 0] _ _ HZ4a.out
                have HB9 : Below w.heap.size w (a4.setRow w.heap.size #[.int .i64 0, .int .i64 0, .int .i64 0, .int .i64 0, .int .i64 0, .int .i64 0, .int .i64 0, .int .i64 0, .int .i64 0, .int .i64 0, .int .i64 0, .int .i64 0, .int .i64 0, .int .i64 0, .int .i64 0, .int .i64 0, .slice none 0 0]) := below_row HB4a.out (Nat.le_refl _)
                go_wp2_with fail
                refine bodyPost_ret_by (results_cell_row2 rfl _ _ w.heap.size 76 _ (0, 0) _ rfl HF Try.underlying76 rfl size_ses) rfl ?_
                exact LdR.no HB9 HX.out
              obtain rfl : bad4 = false := by simpa using hbad
              clear hbad
              have HGp2 : Hid ((mvsG cntT (p + 1) (L2, false)).2.2 = false) := by rw [HEq.out.1]; rfl
              go_upto_region 35 with fail
              clear c1
              have c16 : a4.cell? ⟨gs, 16, none⟩ = some v := HS4a.out.cell rfl
              have f16 := HS4a.out.frozen 16
              have x0 : a4.cell? ⟨gm, 0, none⟩ = some (.int .i64 V1) := HM4.out.cell rfl
              have x1 : a4.cell? ⟨gm, 1, none⟩ = some (.int .i64 V2) := HM4.out.cell rfl
              have x2 : a4.cell? ⟨gm, 2, none⟩ = some (.int .i64 V3) := HM4.out.cell rfl
              have x3 : a4.cell? ⟨gm, 3, none⟩ = some (.int .i64 V4) := HM4.out.cell rfl
              have hsg := HS4a.out.lt
              have hzB : Bx ≤ a4.heap.size := by omega
              go_wp2_with (at_builtin; go_must (refine wpList_app _ rfl _ _ 74 rfl Bx 95 i1 (.agg #[.int .i64 0, .int .i64 0, .int .i64 0, .int .i64 0]) 4 32 Try.underlying74 hi1 hi1z hi1s hi1b rfl (by decide) v p _ rfl (HO4a.out.alloc _) (a4.heap.size + 1) (some ⟨a4.heap.size, 0, none⟩) 1 1 [.int .i64 V1, .int .i64 V2, .int .i64 V3, .int .i64 V4] rfl (((Blk.new a4 95 _).sl rfl).up (by simp)) (mv4_one _ _ _ _) (p + 1) rfl _ rfl _ rfl (by simp only [maxLen]; omega) (by omega) (by rw [World.size_alloc]; omega) ?_; intro A7 k7 u7 hown7 hg7 hat7 hk7 hk8; have HS7 := Lib.hid ((HS4a.out.alloc _).grown hg7 (ownne HO4a.out (by omega))); have HZ7 := Lib.hid ((HZ4a.out.alloc _).grown hg7 (ownne HO4a.out (by omega))); have HB7 := Lib.hid ((HB4a.out.alloc HB4a.out.size _).grown hg7 (by rw [World.size_alloc]; have := HB4a.out.size; omega) (fun x hx => by have := (HO4a.out.lt x hx).1; omega)); have HR7 := Lib.hid ((HRp4.out.below ((Below.refl _ _).alloc (Nat.le_refl _) _)).gb hg7 (fun x hx => by have := (HO4a.out.lt x hx).1; omega)); have HO7 := Lib.hid hown7; have hz7 := hg7.size; rw [World.size_alloc] at hz7; have f16b := HS7.out.frozen 16; have c16b : u7.cell? ⟨gs, 16, none⟩ = some v := HS7.out.cell rfl; have hsg7 := HS7.out.lt; clear hown7 hg7 hat7 c16 f16 x0 x1 x2 x3 HM4 HS4a HZ4a HB4a HRp4 HO4a))
              go_roundg (gk - 1)
              case measure => omega
              case rel =>
                have hset : u7.grownBy (u7.setCell ⟨gs, 16, none⟩ (.slice A7 (p + 1) k7)) (some gs) := gb_set (World.grownBy.refl u7 _) 16 _
                refine ⟨p + 1, B4, n4', k4', .slice A7 (p + 1) k7, by omega, by go_num, ?_, HGp2.out, ?_, HS7.out.set_ 16 _, ?_, HZ7.out.far (by dsimp only; omega) _, HB7.out.setCell (p := ⟨gs, 16, none⟩) (by dsimp only; omega) _⟩
                · have := hset.size
                  omega
                · have h8 := HR7.out.set hset (by omega) (by omega)
                  rw [HEq.out.1]
                  exact h8
                · have h8 := ownsRow_setCell_below HO7.out (a := ⟨gs, 16, none⟩) (by dsimp only; omega) (.slice A7 (p + 1) k7)
                  rw [HEq.out.2, mvVals_app]
                  exact h8
            · skip
              obtain rfl : p = z := by omega
              obtain ⟨Am, km, rfl, hma, hmb⟩ := own_form HOw.out
              have HMl := Lib.hid (mvsG_len cntT (L2, false) p)
              obtain ⟨ms, hms⟩ : ∃ x, x = mvsG cntT p (L2, false) := ⟨_, rfl⟩
              rw [← hms] at HRp0 HOw HTl HMl HGp
              clear hms
              obtain ⟨ml, L9, bad9⟩ := ms
              have hb9 : bad9 = false := HGp.out
              subst hb9
              have HRd : Hid (RdAt wr w.heap.size gr 190 A' n' k' (L9, false)) := HRp0
              have c0 : wr.cell? ⟨gr, 0, none⟩ = some (.slice A' n' k') := HRd.out.blk.cell rfl
              have HL9 : Hid (n' = L9.length) := HRd.out.len.symm
              have hsg9 := HSs.out.lt
              clear hma hmb HRp0 hp HGp HGd HRd7'
              by_cases hn9 : 0 < n'
              · have d1 : decide ((0 : Int) < n') = true := by simp; omega
                have d2 : (0 : Int) < n' := by omega
                have d3 : decide (0 < n') = true := by simp; omega
                have HX := Lib.hid (show loadR l = noLd 281 by rw [HTl.out]; unfold tailL; rw [if_pos (Or.inr (by intro h9; have h8 := HL9.out; have h7 : L9 = [] := h9; rw [h7] at h8; simp at h8; omega))])
                go_upto_region 37 with fail
                refine wp_region_lit ?_
                refine Go.wpList_buildTo rfl 76 #[] rfl _ rfl #[.int .i64 0, .int .i64 0, .int .i64 0, .int .i64 0, .int .i64 0, .int .i64 0, .int .i64 0, .int .i64 0, .int .i64 0, .int .i64 0, .int .i64 0, .int .i64 0, .int .i64 0, .int .i64 0, .int .i64 0, .int .i64 0, .slice none 0 0] (by kernel_rfl) ?_
                refine wpList_store_row rfl _ _ _ rfl w.heap.size #[.int .i64 0, .int .i64 0, .int .i64 0, .int .i64 0, .int .i64 0, .int .i64 0, .int .i64 0, .int .i64 0, .int .i64 0, .int .i64 0, .int .i64 0, .int .i64 0, .int .i64 0, .int .i64 0, .int .i64 0, .int .i64 0, .slice none 0 0] rfl rfl _ _ HZz.out size_ses rfl (by simp [Value.oneCell']) ?_
                have HF := setRow_heap wr w.heap.size _ #[.int .i64 0, .int .i64 0, .int .i64 0, .int .i64 0, .int .i64 0, .int .i64 0, .int .i64 0, .int .i64 0, .int .i64 0, .int .i64 0, .int .i64 0, .int .i64 0, .int .i64 0, .int .i64 0, .int .i64 0, .int .i64 0, .slice none 0 0] _ _ HZz.out
                have HB9 : Below w.heap.size w (wr.setRow w.heap.size #[.int .i64 0, .int .i64 0, .int .i64 0, .int .i64 0, .int .i64 0, .int .i64 0, .int .i64 0, .int .i64 0, .int .i64 0, .int .i64 0, .int .i64 0, .int .i64 0, .int .i64 0, .int .i64 0, .int .i64 0, .int .i64 0, .slice none 0 0]) := below_row HBb.out (Nat.le_refl _)
                go_wp2_with fail
                refine bodyPost_ret_by (results_cell_row2 rfl _ _ w.heap.size 76 _ (0, 0) _ rfl HF Try.underlying76 rfl size_ses) rfl ?_
                exact LdR.no HB9 HX.out
              obtain rfl : n' = 0 := by omega
              clear hn9
              have HTl2 := Lib.hid (show loadR l = if sesErr SS p ≠ 0 then noLd (sesErr SS p) else (0, SS, ml) by
                rw [HTl.out]
                unfold tailL
                rw [if_neg (by
                  rintro (h9 | h9)
                  · cases h9
                  · exact h9 (List.eq_nil_of_length_eq_zero HL9.out.symm)), ← HSSd.out])
              go_upto_region 38 with fail
              clear c0
              refine wp_region_lit ?_
              refine wpList_load_row rfl _ _ rfl gs rfl 76 _ (0, 0) _ HSs.out Try.underlying76 rfl size_ses ?_
              go_wp2_with fail
              refine (rscheck_any SS Am p km wr).mono ?_
              rintro e w9 ⟨rfl, hb9⟩
              have HS9 := Lib.hid (HSs.out.below hb9 HSs.out.lt)
              have HZ9 := Lib.hid (HZz.out.below hb9 HZz.out.lt)
              have HB9 := Lib.hid (HBb.out.trans (hb9.mono HBb.out.size))
              have HO9 := Lib.hid (HOw.out.below hb9)
              clear hb9
              obtain ⟨er, her⟩ : ∃ er, er = sesErr SS p := ⟨_, rfl⟩
              rw [← her] at HTl2 ⊢
              clear her
              by_cases h0 : er = 0
              · subst h0
                go_upto_region 41 with fail
                refine wp_region_lit ?_
                refine wpList_load_row rfl _ _ rfl gs rfl 76 _ (0, 0) _ HS9.out Try.underlying76 rfl size_ses ?_
                refine wpList_store_row rfl _ _ _ rfl w.heap.size _ rfl rfl _ _ HZ9.out size_ses rfl (ses_one SS Am p km) ?_
                have HF := Lib.hid (setRow_heap w9 w.heap.size _ (sesL SS (.slice Am p km)).toArray _ _ HZ9.out)
                go_wp2_with fail
                refine bodyPost_ret_by (results_cell_row2 rfl _ _ w.heap.size 76 _ (0, 0) _ rfl HF.out Try.underlying76 rfl size_ses) rfl ?_
                have hgw : w9.grownBy (w9.setRow w.heap.size (sesL SS (.slice Am p km)).toArray) (some w.heap.size) := ⟨rfl, rfl, rfl, by simp [World.setRow], fun k hk hne => setRow_other w9 w.heap.size k _ (by intro he; exact hne (by rw [he]))⟩
                have hX : loadR l = (0, SS, ml) := by rw [HTl2.out, if_neg (by simp)]
                have h7 : ml.length = p := HMl.out
                refine ⟨Am, km, ?_, ?_, below_row HB9.out (Nat.le_refl _)⟩
                · rw [hX]
                  show _ = Ending.returned (.tuple #[sesV SS (.slice Am ml.length km), .int .i64 0])
                  rw [h7]
                  rfl
                · rw [hX]
                  show World.ownsRow _ _ _ _ (.slice Am ml.length km) ml.length (mvVals ml)
                  rw [h7]
                  exact ownlow (HO9.out.kept hgw (ownne' HO9.out (by omega))) (by omega)
              · have b1 : (er != 0) = true := by simp [h0]
                go_upto_region 40 with fail
                refine wp_region_lit ?_
                refine Go.wpList_buildTo rfl 76 #[] rfl _ rfl #[.int .i64 0, .int .i64 0, .int .i64 0, .int .i64 0, .int .i64 0, .int .i64 0, .int .i64 0, .int .i64 0, .int .i64 0, .int .i64 0, .int .i64 0, .int .i64 0, .int .i64 0, .int .i64 0, .int .i64 0, .int .i64 0, .slice none 0 0] (by kernel_rfl) ?_
                refine wpList_mv rfl _ rfl (.int .i64 er) rfl ?_
                refine wpList_store_row rfl _ _ _ rfl w.heap.size #[.int .i64 0, .int .i64 0, .int .i64 0, .int .i64 0, .int .i64 0, .int .i64 0, .int .i64 0, .int .i64 0, .int .i64 0, .int .i64 0, .int .i64 0, .int .i64 0, .int .i64 0, .int .i64 0, .int .i64 0, .int .i64 0, .slice none 0 0] rfl rfl _ _ HZ9.out size_ses rfl (by simp [Value.oneCell']) ?_
                have HF := setRow_heap w9 w.heap.size _ #[.int .i64 0, .int .i64 0, .int .i64 0, .int .i64 0, .int .i64 0, .int .i64 0, .int .i64 0, .int .i64 0, .int .i64 0, .int .i64 0, .int .i64 0, .int .i64 0, .int .i64 0, .int .i64 0, .int .i64 0, .int .i64 0, .slice none 0 0] _ _ HZ9.out
                have HB10 : Below w.heap.size w (w9.setRow w.heap.size #[.int .i64 0, .int .i64 0, .int .i64 0, .int .i64 0, .int .i64 0, .int .i64 0, .int .i64 0, .int .i64 0, .int .i64 0, .int .i64 0, .int .i64 0, .int .i64 0, .int .i64 0, .int .i64 0, .int .i64 0, .int .i64 0, .slice none 0 0]) := below_row HB9.out (Nat.le_refl _)
                go_wp2_with fail
                refine bodyPost_ret_by (results_cell_row2 rfl _ _ w.heap.size 76 _ (0, 0) _ rfl HF Try.underlying76 rfl size_ses) rfl ?_
                exact LdR.no HB10 (by rw [HTl2.out, if_pos h0])
end Go.Proofs.Ytgbopmgeicokoaa
