/-
  reclaimlaw25.twin: a copy of a Multi with rows of its own.
-/
import Derived.Deep.RegionLaw
import Derived.Deep.RegionHeld3
import Derived.Laws.Rows
import Derived.Laws.NewBlocks
import Derived.Test.YtgbopmgeicokoaaTwRow
namespace Go.Proofs.Ytgbopmgeicokoaa
open Go.RowKit
/-- a copy: the same value, its rows its own -/
def TwinR (c : Mul) (n m : Nat) (w : World) (e : Ending) (w' : World) : Prop :=
  ∃ A k S l, e = .returned (mulV c A n k S m l) ∧ MulAt w' w'.heap.size A n k S m l c ∧ Below w.heap.size w w'

theorem size33 : (Try.prog.info? 33).map (·.size) = some 4 := by kernel_rfl
theorem tw_below {w w1 : World} {o : Obj} (hg : (w.alloc o).drew.grownBy w1 (some w.heap.size)) : Below w.heap.size w w1 :=
  ((Below.refl _ w).alloc (Nat.le_refl _) o).drew.grown hg (by simp) (fun q hq => by injection hq with hq; omega)
theorem twB {w w1 w2 : World} {B g j : Nat} {o : Obj} {cs xs : List Value} {v : Value} (hB : Blk w g 33 cs) (ho : w1.ownsRow B 143 1 v j xs) (hb : Below w.heap.size w w1) (hg : (w1.alloc o).grownBy w2 v.ownBlock) : Blk w2 g 33 cs :=
  Blk.grown ((hB.below hb hB.lt).alloc o) hg (own_blk (ho.alloc o) ((hB.below hb hB.lt).alloc o) (by decide))
theorem twW {w w0 w1 w2 : World} {B j : Nat} {o : Obj} {xs : List Value} {v : Value} (ho : w.ownsRow B 143 1 v j xs) (hb : Below B w0 w1) (hg : (w1.alloc o).grownBy w2 v.ownBlock) (hB : B ≤ w1.heap.size) : Below B w0 w2 :=
  (hb.alloc hB _).grown hg (by simp; omega) (fun q hq => (ho.lt q hq).1)
theorem cell_new {w : World} {g i : Nat} {v : Value} {o : Obj} (hg : g < w.heap.size) (h : w.cell? ⟨g, i, none⟩ = some v) : (w.alloc o).cell? ⟨g, i, none⟩ = some v := (World.cell?_alloc_lt _ _ _ hg).trans h
theorem Hds.mul {w : World} {B n k m l : Nat} {A S : Option Addr} {c : Mul} (ho : w.ownsRow B 3 1 (.slice A n k) n (ints c.cells)) (h : Hds w B (.slice S m l) m c) (hm : m = c.swaps.length) (hn : n ≤ k ∧ k ≤ maxLen) (hl : m ≤ l ∧ l ≤ maxLen) :
    MulAt w w.heap.size A n k S m l c := by
  obtain ⟨hs, h1, h2, h3⟩ := h
  refine ⟨Sl.of_own ho, ⟨hs, by simp [hm], Sl.of_own h1, fun i x r hi hr => ?_⟩, hn, hl⟩
  obtain ⟨es, he, hw⟩ := h3 i x hi
  rw [List.getElem?_map, he] at hr
  simp at hr
  subst hr
  obtain ⟨A', n', k'⟩ := x
  have hf := own_form hw
  obtain ⟨A2, k2, hv, hk1, hk2⟩ := hf
  injection hv with _ hn2 hk
  subst hn2
  subst hk
  exact ⟨Sl.of_own hw, hk1, hk2⟩

set_option maxRecDepth 100000 in
set_option maxHeartbeats 8000000 in
theorem twin_any (c : Mul) (A : Option Addr) (n k : Nat) (S : Option Addr) (m l : Nat) (w : World) (h : MulAt w w.heap.size A n k S m l c) (hA : n * 8 ≤ 140737488355328) (hS : m * 24 ≤ 140737488355328) (hE : ∀ es ∈ c.swaps, es.length * 24 ≤ 140737488355328) :
    Calls Try.prog 17 #[mulV c A n k S m l] w (TwinR c n m w) := by
  have hk1 := h.nk.1
  have hk2 := h.nk.2
  have hl1 := h.ml.1
  have hl2 := h.ml.2
  unfold maxLen at hk2 hl2
  obtain ⟨i0, hi0, hz0, hz1, hz2⟩ := info_parts info_int
  obtain ⟨w0, hw0⟩ : ∃ w0 : World, w0 = (w.alloc (.cells #[.int .i64 c.threads, .slice A n k, .slice S m l, .int .i64 c.uses] 33)).alloc (.cells #[.int .i64 0, .slice none 0 0, .slice none 0 0, .int .i64 0] 33) := ⟨_, rfl⟩
  have hb0 : Below w.heap.size w w0 := by rw [hw0]; exact ((Below.refl _ _).alloc (Nat.le_refl _) _).alloc (by simp) _
  have hz : w.heap.size + 2 = w0.heap.size := by rw [hw0]; simp
  have h0 : Blk w0 w.heap.size 33 [.int .i64 c.threads, .slice A n k, .slice S m l, .int .i64 c.uses] := by rw [hw0]; exact (Blk.new w 33 _).alloc _
  have h1 : Blk w0 (w.heap.size + 1) 33 [.int .i64 0, .slice none 0 0, .slice none 0 0, .int .i64 0] := by
    rw [hw0]
    have := Blk.new (w.alloc (.cells #[.int .i64 c.threads, .slice A n k, .slice S m l, .int .i64 c.uses] 33)) 33 [.int .i64 0, .slice none 0 0, .slice none 0 0, .int .i64 0]
    rwa [World.size_alloc] at this
  have hM := (h.below hb0)
  have HW0 := Lib.hid hw0
  have HZ := Lib.hid hz
  have H0 := Lib.hid h0
  have H1 := Lib.hid h1
  have HM := Lib.hid hM
  have hmm := h.m_eq
  have hr0 : ∀ W, Below w0.heap.size w0 W → (∀ i v, [Value.int .i64 0, .slice none 0 0, .slice none 0 0, .int .i64 0][i]? = some v → W.cell? ⟨w.heap.size + 1, i, none⟩ = some v) ∧ ∀ i, W.frozen? ⟨w.heap.size + 1, i, none⟩ = false :=
    fun W hB => ⟨fun i v hv => (hB.cell (by dsimp only; omega)).trans (h1.cell hv), fun i => (hB.frozen (by dsimp only; omega)).trans (h1.frozen i)⟩
  have HR := Lib.hid hr0
  have HMm := Lib.hid hmm
  have HS : Hid (∀ W, Below w0.heap.size w0 W → Below w0.heap.size w0 W ∧ W.cell? ⟨w.heap.size, 0, none⟩ = some (.int .i64 c.threads) ∧ W.cell? ⟨w.heap.size, 1, none⟩ = some (.slice A n k) ∧ W.cell? ⟨w.heap.size, 2, none⟩ = some (.slice S m l) ∧ W.cell? ⟨w.heap.size, 3, none⟩ = some (.int .i64 c.uses)) :=
    fun W hB => ⟨hB, (hB.cell (by dsimp only; omega)).trans (h0.cell rfl), (hB.cell (by dsimp only; omega)).trans (h0.cell rfl), (hB.cell (by dsimp only; omega)).trans (h0.cell rfl), (hB.cell (by dsimp only; omega)).trans (h0.cell rfl)⟩
  have HSl : Hid (∀ W, Below w0.heap.size w0 W → Sl W w.heap.size 1 A n (ints c.cells)) := fun W hB => hM.cells.below (hB.mono (by omega))
  have HSw : Hid (∀ (i : Nat) (es : List Ent), c.swaps[i]? = some es → ∃ b o A' n' c', S = some ⟨b, o, none⟩ ∧ n' = es.length ∧ n' ≤ c' ∧ c' ≤ maxLen ∧ n' * 24 ≤ 140737488355328 ∧
      Hid (∀ W, Below w0.heap.size w0 W → W.cell? ⟨b, o + i, none⟩ = some (.slice A' n' c')) ∧ Hid (∀ W, Below w0.heap.size w0 W → Sl W w.heap.size 3 A' n' (entVals es))) := fun i es hi => by
    obtain ⟨b, o, A', n', c', e1, e2, e3, e4, e5, e6, e7⟩ := hM.swap hi
    refine ⟨b, o, A', n', c', e1, e5, e6, e7, by rw [e5]; exact hE es (List.mem_of_getElem? hi), fun W hB => (hB.cell (by dsimp only; omega)).trans e3, fun W hB => e4.below (hB.mono (by omega))⟩
  clear hw0 h0 h1 hM h hz hr0 hmm hE
  go_enter Try.func17, Try.ntmps17
  go_wp2_with fail
  rw [← HW0.out]
  go_upto_region 1 with fail
  go_cut [3] (fun s3 wc => ∃ g A' k', s3 = .pointer (some ⟨g, 0, none⟩) ∧ w0.heap.size ≤ g ∧ Below w0.heap.size w0 wc ∧ Blk wc g 33 [.int .i64 c.threads, .slice A' n k', .slice none 0 0, .int .i64 c.uses] ∧
    wc.ownsRow w0.heap.size 3 1 (.slice A' n k') n (ints c.cells) ∧ n ≤ k' ∧ k' ≤ maxLen)
  case first =>
    go_region_held3 (fun W => Below w0.heap.size w0 W ∧ W.cell? ⟨w.heap.size, 0, none⟩ = some (.int .i64 c.threads) ∧ W.cell? ⟨w.heap.size, 1, none⟩ = some (.slice A n k) ∧ W.cell? ⟨w.heap.size, 2, none⟩ = some (.slice S m l) ∧ W.cell? ⟨w.heap.size, 3, none⟩ = some (.int .i64 c.uses))
      ((refine HS.out _ ?_; go_split_ands; first | assumption | exact (Below.refl _ _).drew | exact Below.alloc ‹Below w0.heap.size w0 _› (‹Below w0.heap.size w0 _›).size _ | exact Below.grown (by assumption) hg1 (by simp <;> omega) (by intro q hq; injection hq with hq; omega) | exact below_swap ‹Below w0.heap.size w0 _› (by omega) | exact (((Below.setCell ‹Below w0.heap.size w0 _› (p := ⟨_, 0, none⟩) (by dsimp only; omega) _).setCell (p := ⟨_, 1, none⟩) (by dsimp only; omega) _).setCell (p := ⟨_, 2, none⟩) (by dsimp only; omega) _).setCell (p := ⟨_, 3, none⟩) (by dsimp only; omega) _))
      ((first
          | (refine step_app _ (by rfl) _ _ _ (by rfl) w0.heap.size 3 i0 (.int .i64 0) 1 8 Try.underlying30 hi0 hz0 hz1 hz2 rfl (by decide) _ 0 [] (by rfl) (by first | exact made_a _ _ _ | exact made_b _ _ _ _ | exact made_c _ _ _ _) w.heap.size A n k (ints c.cells) (by rfl) (by go_split_ands; exact HSl.out _ (by assumption)) ints_one n (by omega) (ints c.cells) (by simp) (some w0.heap.size) (by rfl) (by simp only [maxLen]; omega) (by omega) (by simp <;> omega) ?_)
          | (refine step_app _ (by rfl) _ _ _ (by rfl) w0.heap.size 3 i0 (.int .i64 0) 1 8 Try.underlying30 hi0 hz0 hz1 hz2 rfl (by decide) _ 0 [] (by rfl) (by first | exact made_a _ _ _ | exact made_b _ _ _ _ | exact made_c _ _ _ _) w.heap.size A n k (ints c.cells) (by rfl) (by go_split_ands; exact HSl.out _ (by assumption)) ints_one n (by omega) (ints c.cells) (by simp) (some (w0.heap.size + 1)) (by rfl) (by simp only [maxLen]; omega) (by omega) (by simp <;> omega) ?_)
        intro A1 k1 w1 hown1 hg1 hat1 hkk1 hkk2
        have hz1' := hg1.size
        simp at hz1'
        first
          | (have HBk := tw2 hg1 (by simp); have f0 := HBk.cell (i := 0) rfl; have f1 := HBk.cell (i := 1) rfl; have f2 := HBk.cell (i := 2) rfl; have f3 := HBk.cell (i := 3) rfl; have ff := HBk.frozen)
          | (have HBk := tw3 hg1 (by simp); have f0 := HBk.cell (i := 0) rfl; have f1 := HBk.cell (i := 1) rfl; have f2 := HBk.cell (i := 2) rfl; have f3 := HBk.cell (i := 3) rfl; have ff := HBk.frozen)
          | skip))
    all_goals (go_wp2_with fail; go_meet; go_split_ands; go_light)
    · exact ⟨_, A1, k1, rfl, by omega, by assumption, Blk.new _ _ _, hown1.alloc _, hkk1, hkk2⟩
    · refine ⟨_, A1, k1, rfl, by omega, by assumption, ?_, ?_, hkk1, hkk2⟩
      · exact (((HBk.set_ 0 _).set_ 1 _).set_ 2 _).set_ 3 _
      · exact own_far (own_far (own_far (own_far hown1 HBk (by decide)) (HBk.set_ 0 _) (by decide)) ((HBk.set_ 0 _).set_ 1 _) (by decide)) (((HBk.set_ 0 _).set_ 1 _).set_ 2 _) (by decide)
    · refine ⟨_, A1, k1, rfl, by omega, by assumption, ?_, ?_, hkk1, hkk2⟩
      · exact (((HBk.set_ 0 _).set_ 1 _).set_ 2 _).set_ 3 _
      · exact own_far (own_far (own_far (own_far hown1 HBk (by decide)) (HBk.set_ 0 _) (by decide)) ((HBk.set_ 0 _).set_ 1 _) (by decide)) (((HBk.set_ 0 _).set_ 1 _).set_ 2 _) (by decide)
  case rest =>
    obtain ⟨g, A', k', rfl, hg, hbc, HB, hown, hk3, hk4⟩ := hcut
    go_wp2_with fail
    go_loopg [4] m (fun gk i wr => ∃ (j : Nat) (v : Value), j + gk = m ∧ i = .int .i64 j ∧ Below w0.heap.size w0 wr ∧ Hid (Blk wr g 33 [.int .i64 c.threads, .slice A' n k', v, .int .i64 c.uses]) ∧ Hid (wr.ownsRow w0.heap.size 3 1 (.slice A' n k') n (ints c.cells)) ∧ Hid (Hds wr w0.heap.size v j c))
    case atStart => exact ⟨0, _, by omega, rfl, hbc, HB, hown, Hds.nil⟩
    case round =>
      clear hown HB hbc
      obtain ⟨j, v, hj, rfl, hbr, HB, HO, HH⟩ := hrel
      obtain ⟨q0, q1, q2, q3, q4⟩ := HS.out wr hbr
      by_cases hlt : j < m
      · obtain ⟨es, hx⟩ := at_lt (by rw [← HMm.out]; exact hlt : j < c.swaps.length)
        obtain ⟨b, o, Aj, nj, kj, rfl, hn1, hn2, hn3, hn4, HC, HE⟩ := HSw.out j es hx
        have d3 : wr.cell? ⟨g, 2, none⟩ = some v := HB.out.cell rfl
        have d4 := HB.out.frozen 2
        have hgl := HB.out.lt
        have HX := Lib.hid hx
        have hB0 : w0.heap.size ≤ wr.heap.size := hbr.size
        have Hn1 := Lib.hid hn1
        have HHa := HH
        obtain ⟨hs, hs1, hs2, hs3⟩ := HH
        have HS1 := Lib.hid hs1
        have HS2 := Lib.hid hs2
        have HS3 := Lib.hid hs3
        have e1 : (j : Int) < m := by omega
        clear hx hn1 hs1 hs2 hs3 q0
        have HT : Hid (∀ W, Below w0.heap.size w0 W → Below w0.heap.size w0 W ∧ W.cell? ⟨w.heap.size, 0, none⟩ = some (.int .i64 c.threads) ∧ W.cell? ⟨w.heap.size, 1, none⟩ = some (.slice A n k) ∧ W.cell? ⟨w.heap.size, 2, none⟩ = some (.slice (some ⟨b, o, none⟩) m l) ∧ W.cell? ⟨w.heap.size, 3, none⟩ = some (.int .i64 c.uses) ∧ W.cell? ⟨b, o + j, none⟩ = some (.slice Aj nj kj)) :=
          fun W hB => ⟨hB, (HS.out W hB).2.1, (HS.out W hB).2.2.1, (HS.out W hB).2.2.2.1, (HS.out W hB).2.2.2.2, HC.out W hB⟩
        obtain ⟨i2, hi2, hy0, hy1, hy2⟩ := info_parts info_ent
        obtain ⟨i1, hi1, hx0, hx1, hx2⟩ := info_parts info_ents
        go_upto_region 5 with fail
        have hB1 : w0.heap.size ≤ (wr.alloc (.cells #[] 232)).drew.heap.size := by rw [World.size_drew, World.size_alloc]; omega
        have hwl : w.heap.size < wr.heap.size := by have := HZ.out; omega
        have q5 := HC.out wr hbr
        have hbl := World.block_lt_of_cell? wr _ q5
        dsimp only at hbl
        go_region_law
          ((first
            | (have hx := hown2
               clear hx
               refine step_app _ (by rfl) _ _ 31 (by rfl) w0.heap.size 143 i1 (.slice none 0 0) 1 24 Try.underlying31 hi1 hx0 hx1 hx2 rfl (by decide) _ j _ (by rfl) (hown2.alloc _) _ _ 1 1 [.slice A1 nj k1] (by rfl) (lit_one _ _ _ _ _) hd_one (j + 1) rfl _ rfl _ rfl (by simp only [maxLen]; omega) (by omega) hB2 ?_
               intro A2 k2 w2 hown3 hgr2 hat2 hkk3 hkk4
               have hB3 := twB HB.out hown2 hb1 hgr2
               have hb4 := twW HS1.out hb2 hgr2 (by omega)
               have h2c := hB3.cell (i := 2) rfl
               have h2f := hB3.frozen 2)
            | (refine step_app _ (by rfl) _ _ 143 (by rfl) w0.heap.size 232 i2 (.agg #[.int .i64 0, .int .i64 0, .int .i64 0]) 3 24 Try.underlying143 hi2 hy0 hy1 hy2 rfl (by decide) _ 0 [] (by rfl) (made_d _ _ _ hB0) w.heap.size Aj nj kj (entVals es) (by rfl) (HE.out _ ((hbr.alloc hB0 _).drew)) entVals_one nj (by omega) (entVals es) (by simp) (some wr.heap.size) (by rfl) (by simp only [maxLen]; omega) (by omega) hB1 ?_
               intro A1 k1 w1 hown1 hg1 hat1 hkk1 hkk2
               have hz1' := hg1.size
               rw [World.size_drew, World.size_alloc] at hz1'
               have hb1 := tw_below hg1
               have hb2 := hbr.trans (hb1.mono hB0)
               have f2 : w1.cell? ⟨g, 2, none⟩ = some v := (hb1.cell hgl).trans d3
               have hg2 : g < w1.heap.size := by omega
               have hwl1 : w.heap.size < w1.heap.size := by omega
               have f3 := (HS.out w1 hb2).2.2.2.1
               have f5 := HC.out w1 hb2
               have hbl1 : b < w1.heap.size := by omega
               have hB2 : w0.heap.size ≤ (w1.alloc (.cells #[.slice A1 nj k1] 143)).heap.size := by rw [World.size_alloc]; omega
               have hown2 := HS1.out.below hb1)))
        all_goals go_wp2_with fail
        all_goals go_roundg (gk - 1)
        all_goals first
          | (case measure => omega)
          | skip
        all_goals (
          have hO1 := (HO.out.below hb1).alloc (.cells #[.slice A1 nj k1] 143)
          have hv1 := hown2.alloc (.cells #[.slice A1 nj k1] 143)
          have hN : Hds w2 w0.heap.size (.slice A2 (j + 1) k2) (j + 1) c := Hds.next hv1 HS2.out (fun i x hi => by obtain ⟨es', he, ho⟩ := HS3.out i x hi; exact ⟨es', he, (ho.below hb1).alloc _⟩) HX.out Hn1.out (hown1.alloc _) hgr2 hown3
          refine ⟨j + 1, .slice A2 (j + 1) k2, by omega, by go_num, hb4.setCell hg _, hB3.set_ 2 _, own_far (hO1.kept hgr2 (own_apart hO1 hv1 (by decide))) hB3 (by decide), hN.far hB3⟩)
      · obtain rfl : m = j := by omega
        obtain ⟨xs, hrow⟩ := HH.out.row
        obtain ⟨S2, l2, rfl, hl5, hl6⟩ := own_form hrow
        have z0 := HB.out.cell (i := 0) rfl
        have z1 := HB.out.cell (i := 1) rfl
        have z2 := HB.out.cell (i := 2) rfl
        have z3 := HB.out.cell (i := 3) rfl
        obtain ⟨y, yf⟩ := HR.out wr hbr
        have y0 := y 0 _ rfl
        have y1 := y 1 _ rfl
        have y2 := y 2 _ rfl
        have y3 := y 3 _ rfl
        have yf0 := yf 0
        clear y
        go_wp2_with fail
        have hz0 := HZ.out
        have hR := (((((H1.out.below hbr (by omega)).set_ 0 (.int .i64 c.threads)).set_ 1 (.slice A' n k')).set_ 2 (.slice S2 m l2)).set_ 3 (.int .i64 c.uses))
        have hMu : MulAt ((((wr.setCell ⟨w.heap.size + 1, 0, none⟩ (.int .i64 c.threads)).setCell ⟨w.heap.size + 1, 1, none⟩ (.slice A' n k')).setCell ⟨w.heap.size + 1, 2, none⟩ (.slice S2 m l2)).setCell ⟨w.heap.size + 1, 3, none⟩ (.int .i64 c.uses)) ((((wr.setCell ⟨w.heap.size + 1, 0, none⟩ (.int .i64 c.threads)).setCell ⟨w.heap.size + 1, 1, none⟩ (.slice A' n k')).setCell ⟨w.heap.size + 1, 2, none⟩ (.slice S2 m l2)).setCell ⟨w.heap.size + 1, 3, none⟩ (.int .i64 c.uses)).heap.size A' n k' S2 m l2 c := by
          have hB5 := H1.out.below hbr (by omega)
          refine Hds.mul (B := w0.heap.size) ?_ ?_ HMm.out ⟨hk3, hk4⟩ ⟨hl5, hl6⟩
          · exact own_far (own_far (own_far (own_far HO.out hB5 (by decide)) (hB5.set_ 0 _) (by decide)) ((hB5.set_ 0 _).set_ 1 _) (by decide)) (((hB5.set_ 0 _).set_ 1 _).set_ 2 _) (by decide)
          · exact (((HH.out.far hB5).far (hB5.set_ 0 _)).far ((hB5.set_ 0 _).set_ 1 _)).far (((hB5.set_ 0 _).set_ 1 _).set_ 2 _)
        have hbz := ((((hb0.trans (hbr.mono (by omega))).setCell (p := ⟨w.heap.size + 1, 0, none⟩) (by dsimp only; omega) (.int .i64 c.threads)).setCell (p := ⟨w.heap.size + 1, 1, none⟩) (by dsimp only; omega) (.slice A' n k')).setCell (p := ⟨w.heap.size + 1, 2, none⟩) (by dsimp only; omega) (.slice S2 m l2)).setCell (p := ⟨w.heap.size + 1, 3, none⟩) (by dsimp only; omega) (.int .i64 c.uses)
        generalize ((((wr.setCell ⟨w.heap.size + 1, 0, none⟩ (.int .i64 c.threads)).setCell ⟨w.heap.size + 1, 1, none⟩ (.slice A' n k')).setCell ⟨w.heap.size + 1, 2, none⟩ (.slice S2 m l2)).setCell ⟨w.heap.size + 1, 3, none⟩ (.int .i64 c.uses)) = wF at hR hMu hbz ⊢
        have hR2 : wF.heap[w.heap.size + 1]? = some (.cells #[.int .i64 c.threads, .slice A' n k', .slice S2 m l2, .int .i64 c.uses] 33 (0, 0)) := hR
        refine bodyPost_ret_by (results_cell_row rfl _ _ (w.heap.size + 1) 33 _ (0, 0) _ rfl hR2 Try.underlying33 rfl size33) rfl ?_
        exact ⟨A', k', S2, l2, rfl, hMu, hbz⟩

end Go.Proofs.Ytgbopmgeicokoaa
