/-
reclaimref27.Begin.
-/
import Derived.Test.YtgjdgapfnfhklaaGreatZ25
import Derived.Test.YtgjdgapfnfhklaaGreatZ5
import Derived.Test.YtgjdgapfnfhklaaGreatRst
set_option linter.unusedSimpArgs false
set_option linter.unusedVariables false
set_option maxRecDepth 100000
set_option maxHeartbeats 16000000
namespace Go.Proofs.YtgjdgapfnfhklaaGreat
open Go.RowKit
abbrev rsV (M : RM) (n nw : Nat) : Value := .agg #[.slice (some ⟨M.h.gw, 0, none⟩) nw M.h.kw, .slice (some ⟨M.h.gr, 0, none⟩) n M.h.kr, .slice (some ⟨M.h.gp, 0, none⟩) n M.h.kp, .slice (some ⟨M.h.gb, 0, none⟩) n M.h.kb, .slice (some ⟨M.gm, 0, none⟩) n M.km, .slice (some ⟨M.gd, 0, none⟩) nw M.kd, M.vE]
def B27R (l : Lit) (w : World) (e : Ending) (w' : World) : Prop := ∃ M, e = .returned (rsV M l.tn l.wn) /\ RSB w' w.heap.size l.tn l.wn (firstS l) (xAt []) [] M /\ Below w.heap.size w w'
theorem size_st7 : (Tryz.prog.info? 80).map (·.size) = some 7 := by kernel_rfl
theorem st7_one (A1 A2 A3 A4 A5 A6 A7 : Option Addr) (n1 n2 n3 n4 n5 n6 n7 k1 k2 k3 k4 k5 k6 k7 : Nat) : (#[.slice A1 n1 k1, .slice A2 n2 k2, .slice A3 n3 k3, .slice A4 n4 k4, .slice A5 n5 k5, .slice A6 n6 k6, .slice A7 n7 k7] : Array Value).all (·.oneCell') = true := by simp [Value.oneCell']
theorem info_is : (Tryz.prog.info? 22).map (fun i => (i.zero, i.size, i.bytes)) = some (some (.slice none 0 0), 1, 24) := by kernel_rfl
def zC : Clk := fun _ => 0
theorem made_clk (n : Nat) : (madeCells (Value.int .i64 0).cells (n * 1)).toList = ints (clkL n zC) := by
 show (madeCells #[Value.int .i64 0] (n * 1)).toList = _
 rw [madeCells_one, Nat.mul_one]
 apply List.ext_getElem
 ·simp [ints, clkL]
 ·intro i h1 h2
  simp [ints, clkL, zC]
theorem one_sl (A : Option Addr) (n k : Nat) : ∀ u ∈ [Value.slice A n k], u.oneCell' = true := by intro u hu; simp at hu; subst hu; rfl
structure BgI (W w : World) (gt : Nat) (h : SH) (l : Lit) (vm : Value) (ms : List Nat) (vd : Value) (ws : List (Nat × Nat)) : Prop where
 bel : Below w.heap.size w W
 gtB : w.heap.size + 1 < gt
 lit : Blk W w.heap.size 25 (litL l)
 res : Blk W (w.heap.size + 1) 80 [.slice none 0 0, .slice none 0 0, .slice none 0 0, .slice none 0 0, .slice none 0 0, .slice none 0 0, .slice none 0 0]
 blk : Blk W gt 80 (stL h l.tn l.wn ++ [vm, vd, .slice none 0 0])
 st : StAt W h l.tn l.wn (firstS l)
 nu : NewS w.heap.size h
 mo : W.ownsRow w.heap.size 22 1 vm ms.length (mhV l.tn (fun _ => l.tn) ms)
 mr : ∀ (i g : Nat), ms[i]? = some g -> w.heap.size <= g /\ Rw W g 3 1 l.tn l.tn (ints (clkL l.tn zC))
 wo : W.ownsRow w.heap.size 22 1 vd ws.length (whV l.tn ws)
 wr : ∀ (a : Nat) (p : Nat × Nat), ws[a]? = some p -> (w.heap.size <= p.1 /\ p.1 ∉ (h.gw :: h.gp :: ms)) /\ Rw W p.1 3 1 l.tn p.2 (ints (clkL l.tn zC))
 nd : (h.gw :: h.gp :: ms).Nodup
 ap : vm.ownBlock = none ∨ vm.ownBlock ≠ vd.ownBlock
section
variable {W w : World} {gt : Nat} {h : SH} {l : Lit} {vm vd : Value} {ms : List Nat} {ws : List (Nat × Nat)}
theorem BgI.mine {W3 : World} {g q : Nat} {vm' : Value} (H : BgI W w gt h l vm ms vd ws) (hg : W.heap.size <= g) (hG : W.grownBy W3 vm.ownBlock) (hr : Rw W3 g 3 1 l.tn l.tn (ints (clkL l.tn zC)))
  (ho : W3.ownsRow w.heap.size 22 1 vm' (ms.length + 1) (mhV l.tn (fun _ => l.tn) ms ++ [.slice (some ⟨g, 0, none⟩) l.tn l.tn])) (hat : vm'.ownBlock = vm.ownBlock ∨ vm'.ownBlock = some q) (hq : W.heap.size <= q) (hws : vd = .slice none 0 0 /\ ws = []) :
  BgI (W3.setCell ⟨gt, 4, none⟩ vm') w gt h l vm' (ms ++ [g]) vd ws := by
 obtain ⟨rfl, rfl⟩ := hws
 have e1 := own_nb H.mo H.blk (by decide)
 have hB3 := H.blk.grown hG e1
 have hfar : ∀ {q : Nat} {t : TypeId} {cs : List Value}, Blk W q t cs -> t ≠ 22 -> q ≠ gt -> Blk (W3.setCell ⟨gt, 4, none⟩ vm') q t cs := fun hb hne hn => (hb.grown hG (own_nb H.mo hb (fun e => hne e.symm))).far hn _
 have hrw : ∀ {q sz m k : Nat} {t : TypeId} {xs : List Value}, Rw W q t sz m k xs -> 22 ≠ t -> t ≠ 80 -> Rw (W3.setCell ⟨gt, 4, none⟩ vm') q t sz m k xs := fun hr h1 h2 => (hr.gb hG (own_nr H.mo hr h1)).far (hr.nb H.blk h2) _
 have hgB := H.bel.size
 exact {
  bel := (H.bel.grown hG H.bel.size (fun q hq => (H.mo.lt q hq).1)).setCell (by have := H.gtB; dsimp only; omega) _
  gtB := H.gtB
  lit := hfar H.lit (by decide) (by have := H.gtB; omega)
  res := hfar H.res (by decide) (by have := H.gtB; omega)
  blk := hB3.set_ 4 vm'
  st := ⟨hrw H.st.w (by decide) (by decide), hrw H.st.r (by decide) (by decide), hrw H.st.p (by decide) (by decide), hrw H.st.b (by decide) (by decide), H.st.ne⟩
  nu := H.nu
  mo := by
   have h1 : (mhV l.tn (fun _ => l.tn) (ms ++ [g])) = mhV l.tn (fun _ => l.tn) ms ++ [.slice (some ⟨g, 0, none⟩) l.tn l.tn] := mhV_snoc _ _ _ _
   rw [h1, List.length_append]
   exact own_far ho hB3 (by decide)
  mr := fun i p hp => by
   by_cases hi : i < ms.length
   ·rw [List.getElem?_append_left hi] at hp
    exact ⟨(H.mr i p hp).1, hrw (H.mr i p hp).2 (by decide) (by decide)⟩
   ·have hi2 : i = ms.length := by
     have := (List.getElem?_eq_some_iff.1 hp).1
     simp at this
     omega
    subst hi2
    rw [List.getElem?_append_right (Nat.le_refl _), Nat.sub_self] at hp
    simp at hp
    subst hp
    exact ⟨by omega, hr.far (hr.nb hB3 (by decide)) _⟩
  wo := World.ownsRow_nil _ _ _ _
  wr := fun a p hp => by simp at hp
  nd := by
   have h0 : ∀ p ∈ (h.gw :: h.gp :: ms), p < W.heap.size := by
    intro p hp
    simp only [List.mem_cons] at hp
    rcases hp with rfl | rfl | hp
    ·exact H.st.w.lt
    ·exact H.st.p.lt
    ·obtain ⟨i, hi, he⟩ := List.mem_iff_getElem.1 hp
     exact (H.mr i p (by rw [List.getElem?_eq_getElem hi, he])).2.lt
   have h1 : (h.gw :: h.gp :: (ms ++ [g])) = (h.gw :: h.gp :: ms) ++ [g] := rfl
   rw [h1, List.nodup_append]
   refine ⟨H.nd, by simp, ?_⟩
   intro a ha b hb
   simp at hb
   subst hb
   have := h0 a ha
   omega
  ap := by
   cases hv : vm'.ownBlock with
   | none => exact Or.inl rfl
   | some r => exact Or.inr (by show some r ≠ none; simp) }
theorem BgI.word {W3 : World} {g q : Nat} {vd' : Value} (H : BgI W w gt h l vm ms vd ws) (hg : W.heap.size <= g) (hG : W.grownBy W3 vd.ownBlock) (hr : Rw W3 g 3 1 l.tn l.tn (ints (clkL l.tn zC)))
  (ho : W3.ownsRow w.heap.size 22 1 vd' (ws.length + 1) (whV l.tn ws ++ [.slice (some ⟨g, 0, none⟩) l.tn l.tn])) (hat : vd'.ownBlock = vd.ownBlock ∨ vd'.ownBlock = some q) (hq : W.heap.size <= q) :
  BgI (W3.setCell ⟨gt, 5, none⟩ vd') w gt h l vm ms vd' (ws ++ [(g, l.tn)]) := by
 have e1 := own_nb H.wo H.blk (by decide)
 have hB3 := H.blk.grown hG e1
 have hfar : ∀ {q : Nat} {t : TypeId} {cs : List Value}, Blk W q t cs -> t ≠ 22 -> q ≠ gt -> Blk (W3.setCell ⟨gt, 5, none⟩ vd') q t cs := fun hb hne hn => (hb.grown hG (own_nb H.wo hb (fun e => hne e.symm))).far hn _
 have hrw : ∀ {q sz m k : Nat} {t : TypeId} {xs : List Value}, Rw W q t sz m k xs -> 22 ≠ t -> t ≠ 80 -> Rw (W3.setCell ⟨gt, 5, none⟩ vd') q t sz m k xs := fun hr h1 h2 => (hr.gb hG (own_nr H.wo hr h1)).far (hr.nb H.blk h2) _
 have hgB := H.bel.size
 have h0 : ∀ p ∈ (h.gw :: h.gp :: ms), p < W.heap.size := by
  intro p hp
  simp only [List.mem_cons] at hp
  rcases hp with rfl | rfl | hp
  ·exact H.st.w.lt
  ·exact H.st.p.lt
  ·obtain ⟨i, hi, he⟩ := List.mem_iff_getElem.1 hp
   exact (H.mr i p (by rw [List.getElem?_eq_getElem hi, he])).2.lt
 exact {
  bel := (H.bel.grown hG H.bel.size (fun q hq => (H.wo.lt q hq).1)).setCell (by have := H.gtB; dsimp only; omega) _
  gtB := H.gtB
  lit := hfar H.lit (by decide) (by have := H.gtB; omega)
  res := hfar H.res (by decide) (by have := H.gtB; omega)
  blk := hB3.set_ 5 vd'
  st := ⟨hrw H.st.w (by decide) (by decide), hrw H.st.r (by decide) (by decide), hrw H.st.p (by decide) (by decide), hrw H.st.b (by decide) (by decide), H.st.ne⟩
  nu := H.nu
  mo := own_far (H.mo.kept hG H.ap) hB3 (by decide)
  mr := fun i p hp => ⟨(H.mr i p hp).1, hrw (H.mr i p hp).2 (by decide) (by decide)⟩
  wo := by
   have h1 : (whV l.tn (ws ++ [(g, l.tn)])) = whV l.tn ws ++ [.slice (some ⟨g, 0, none⟩) l.tn l.tn] := by simp [whV]
   rw [h1, List.length_append]
   exact own_far ho hB3 (by decide)
  wr := fun i p hp => by
   by_cases hi : i < ws.length
   ·rw [List.getElem?_append_left hi] at hp
    exact ⟨(H.wr i p hp).1, hrw (H.wr i p hp).2 (by decide) (by decide)⟩
   ·have hi2 : i = ws.length := by
     have := (List.getElem?_eq_some_iff.1 hp).1
     simp at this
     omega
    subst hi2
    rw [List.getElem?_append_right (Nat.le_refl _), Nat.sub_self] at hp
    simp at hp
    subst hp
    exact ⟨⟨by dsimp only; omega, fun hm => by have := h0 _ hm; dsimp only at this; omega⟩, hr.far (hr.nb hB3 (by decide)) _⟩
  nd := H.nd
  ap := by
   cases hv : vm.ownBlock with
   | none => exact Or.inl rfl
   | some r =>
    refine Or.inr ?_
    rcases hat with h1 | h1
    ·rw [h1, <- hv]
     rcases H.ap with h2 | h2
     ·rw [hv] at h2; cases h2
     ·exact h2
    ·rw [h1]
     have := (H.mo.lt r hv).2
     intro e
     injection e with e
     omega }
theorem BgI.end {W' : World} (H : BgI W w gt h l vm ms vd ws) (hm : ms.length = l.tn) (hw : ws.length = l.wn) (n1 : 1 <= l.tn) (n3 : 1 <= l.wn) (hk : ∀ g, g ≠ w.heap.size + 1 -> W'.heap[g]? = W.heap[g]?) (hb : Below w.heap.size w W') :
  ∃ gm km gd kd, vm = .slice (some ⟨gm, 0, none⟩) l.tn km /\ vd = .slice (some ⟨gd, 0, none⟩) l.wn kd /\ RSB W' w.heap.size l.tn l.wn (firstS l) (xAt []) [] ⟨h, gm, km, ms, gd, kd, ws, .slice none 0 0, [], fun _ => l.tn, fun _ => False⟩ := by
 have hmo := H.mo
 have hwo := H.wo
 rw [hm] at hmo
 rw [hw] at hwo
 obtain ⟨A1, k1, e1, _, _⟩ := own_form hmo
 obtain ⟨A2, k2, e2, _, _⟩ := own_form hwo
 rw [e1] at hmo
 rw [e2] at hwo
 obtain ⟨gm, f1, b1, r1⟩ := Rw.of_own hmo (by omega)
 obtain ⟨gd, f2, b2, r2⟩ := Rw.of_own hwo (by omega)
 subst f1 f2
 have hrw : ∀ {q sz m k : Nat} {t : TypeId} {xs : List Value}, Rw W q t sz m k xs -> t ≠ 80 -> Rw W' q t sz m k xs := fun hr h2 => hr.kept (hk _ (fun e => hr.nb H.res h2 e))
 refine ⟨gm, k1, gd, k2, e1, e2, {
  st := ⟨hrw H.st.w (by decide), hrw H.st.r (by decide), hrw H.st.p (by decide), hrw H.st.b (by decide), H.st.ne⟩
  nu := H.nu
  gmB := b1
  gdB := b2
  mi := hrw r1 (by decide)
  mr := fun i g hg => ⟨(H.mr i g hg).1, hrw (H.mr i g hg).2 (by decide)⟩
  wi := hrw r2 (by decide)
  wr := fun i p hp => ⟨(H.wr i p hp).1.2, hrw (H.wr i p hp).2 (by decide)⟩
  ev := World.ownsRow_nil _ _ _ _
  cl := rfl
  cr := fun i p hp => by simp at hp
  nd := H.nd
  gg := by
   rcases H.ap with h9 | h9
   ·rw [e1] at h9; cases h9
   ·intro e
    have e : gm = gd := e
    rw [e1, e2, e] at h9
    exact h9 rfl
  wB := fun i p hp => (H.wr i p hp).1.1
  cB := fun i p hp => by simp at hp }⟩
end
theorem rb27_any (l : Lit) (w : World) (h : LitAt w w.heap.size l) (hok : okLit l = true) :
  Calls Tryz.prog 18 #[litV l] w (B27R l w) := by
 obtain ⟨n1, n2, n3, n4⟩ := okLit_num hok
 obtain ⟨w0, hw0⟩ : ∃ w0 : World, w0 = (w.alloc (.cells #[.slice l.wA l.wn l.wk, .slice l.tA l.tn l.tk] 25)).alloc (.cells #[.slice none 0 0, .slice none 0 0, .slice none 0 0, .slice none 0 0, .slice none 0 0, .slice none 0 0, .slice none 0 0] 80) := ⟨_, rfl⟩
 have HB0 : Hid (Blk w0 w.heap.size 25 (litL l)) := by rw [hw0]; exact (Blk.new w 25 (litL l)).alloc _
 have HZ0 : Hid (Blk w0 (w.heap.size + 1) 80 [.slice none 0 0, .slice none 0 0, .slice none 0 0, .slice none 0 0, .slice none 0 0, .slice none 0 0, .slice none 0 0]) := by
  rw [hw0]
  have h9 := Blk.new (w.alloc (.cells #[.slice l.wA l.wn l.wk, .slice l.tA l.tn l.tk] 25)) 80 [.slice none 0 0, .slice none 0 0, .slice none 0 0, .slice none 0 0, .slice none 0 0, .slice none 0 0, .slice none 0 0]
  rw [World.size_alloc] at h9
  exact h9
 have HW0 : Hid (Below w.heap.size w w0) := by rw [hw0]; exact ((Below.refl _ _).alloc (Nat.le_refl _) _).alloc (by simp) _
 have HL := Lh h
 have HWe := Lh hw0
 have hz0 : w.heap.size + 1 < w0.heap.size := HZ0.o.lt
 clear h hw0
 obtain ⟨i1, hi1, hi1z, hi1s, hi1b⟩ := info_parts info_int1
 obtain ⟨i2, hi2, hi2z, hi2s, hi2b⟩ := info_parts info_is
 go_enter Tryz.func18, Tryz.ntmps18
 go_upto_region 1 with fail
 rw [<- HWe.o]
 clear HWe
 have q0 := HB0.o.cell (i := 0) rfl
 have q1 := HB0.o.cell (i := 1) rfl
 go_wp2_with fail
 refine (rbegin_ok l w0 ((HL.o.keep HW0.o).up HW0.o.size) hok).mono ?_
 rintro e w1 ⟨h1, rfl, hnu1, hst1, hb1⟩
 have hx1 : Blk (w1.alloc (.cells #[.slice none 0 0, .slice none 0 0, .slice none 0 0, .slice none 0 0, .slice none 0 0, .slice none 0 0, .slice none 0 0] 80)) w1.heap.size 80 [.slice none 0 0, .slice none 0 0, .slice none 0 0, .slice none 0 0, .slice none 0 0, .slice none 0 0, .slice none 0 0] := Blk.new w1 80 [.slice none 0 0, .slice none 0 0, .slice none 0 0, .slice none 0 0, .slice none 0 0, .slice none 0 0, .slice none 0 0]
 go_upto_region 2 with (refine wpList_store_row rfl _ _ _ rfl w1.heap.size #[.slice (some ⟨h1.gw, 0, none⟩) l.wn h1.kw, .slice (some ⟨h1.gr, 0, none⟩) l.tn h1.kr, .slice (some ⟨h1.gp, 0, none⟩) l.tn h1.kp, .slice (some ⟨h1.gb, 0, none⟩) l.tn h1.kb, .slice none 0 0, .slice none 0 0, .slice none 0 0] rfl rfl 80 _ hx1 size_st7 rfl (st7_one _ _ _ _ _ _ _ _ _ _ _ _ _ _ _ _ _ _ _ _ _) ?_)
 (try simp only [Act.put])
 go_upto_region 2 with fail
 obtain ⟨gt, hgt⟩ : ∃ gt, gt = w1.heap.size := ⟨_, rfl⟩
 obtain ⟨w2, hw2, HI⟩ : ∃ Z9, Z9 = (w1.alloc (.cells #[.slice none 0 0, .slice none 0 0, .slice none 0 0, .slice none 0 0, .slice none 0 0, .slice none 0 0, .slice none 0 0] 80)).setRow w1.heap.size #[.slice (some ⟨h1.gw, 0, none⟩) l.wn h1.kw, .slice (some ⟨h1.gr, 0, none⟩) l.tn h1.kr, .slice (some ⟨h1.gp, 0, none⟩) l.tn h1.kp, .slice (some ⟨h1.gb, 0, none⟩) l.tn h1.kb, .slice none 0 0, .slice none 0 0, .slice none 0 0] /\ Hid (BgI Z9 w gt h1 l (.slice none 0 0) [] (.slice none 0 0) []) := by
  have hbz := hb1.size
  have hbel : Below w.heap.size w w1 := HW0.o.trans (hb1.mono HW0.o.size)
  have hA : Below w1.heap.size w1 ((w1.alloc (.cells #[.slice none 0 0, .slice none 0 0, .slice none 0 0, .slice none 0 0, .slice none 0 0, .slice none 0 0, .slice none 0 0] 80)).setRow w1.heap.size #[.slice (some ⟨h1.gw, 0, none⟩) l.wn h1.kw, .slice (some ⟨h1.gr, 0, none⟩) l.tn h1.kr, .slice (some ⟨h1.gp, 0, none⟩) l.tn h1.kp, .slice (some ⟨h1.gb, 0, none⟩) l.tn h1.kb, .slice none 0 0, .slice none 0 0, .slice none 0 0]) := rowB ((Below.refl _ _).alloc (Nat.le_refl _) _) (Nat.le_refl _)
  refine ⟨_, rfl, ?_⟩
  rw [hgt]
  exact {
   bel := hbel.trans (hA.mono hbel.size)
   gtB := by omega
   lit := (HB0.o.below hb1 HB0.o.lt).below hA (by have := HB0.o.lt; omega)
   res := (HZ0.o.below hb1 HZ0.o.lt).below hA (by have := HZ0.o.lt; omega)
   blk := setRow_heap _ _ _ #[.slice (some ⟨h1.gw, 0, none⟩) l.wn h1.kw, .slice (some ⟨h1.gr, 0, none⟩) l.tn h1.kr, .slice (some ⟨h1.gp, 0, none⟩) l.tn h1.kp, .slice (some ⟨h1.gb, 0, none⟩) l.tn h1.kb, .slice none 0 0, .slice none 0 0, .slice none 0 0] _ _ hx1
   st := hst1.on hA
   nu := ⟨Nat.le_trans HW0.o.size hnu1.1, Nat.le_trans HW0.o.size hnu1.2.1, Nat.le_trans HW0.o.size hnu1.2.2.1, Nat.le_trans HW0.o.size hnu1.2.2.2⟩
   mo := World.ownsRow_nil _ _ _ _
   mr := fun i g hg => by simp at hg
   wo := World.ownsRow_nil _ _ _ _
   wr := fun i g hg => by simp at hg
   nd := by
    have := hst1.ne.2.1
    simp [this]
   ap := Or.inl rfl }
 rw [<- hw2, <- hgt]
 clear hw2 hgt hx1 hnu1 hst1 hb1 q0 q1 HB0 HZ0 HW0 hz0
 go_wp2_with fail
 go_loopg [4] l.tn (fun gk i wr => ∃ (j : Nat) (vm : Value) (ms : List Nat), j + gk = l.tn /\ ms.length = j /\ i = .int .i64 j /\ Hid (BgI wr w gt h1 l vm ms (.slice none 0 0) []))
 case atStart => exact ⟨0, _, [], by omega, rfl, rfl, HI⟩
 case round =>
  obtain ⟨j, vm, ms, hj, hmj, rfl, HJ⟩ := hrel
  have q1 := HJ.o.lit.cell (i := 1) rfl
  by_cases hlt : j < l.tn
  ·have e1 : (j : Int) < l.tn := by omega
   have HMj := Lh hmj
   clear hmj
   obtain ⟨Av, kv, hvv, hkv1, hkv2⟩ := own_form HJ.o.mo
   subst hvv
   have HSo : Hid (∀ W, wr.grownBy W (Value.slice Av ms.length kv).ownBlock -> W.cell? ⟨w.heap.size, 1, none⟩ = some (.slice l.tA l.tn l.tk)) := fun W hW => (HJ.o.lit.grown hW (own_nb HJ.o.mo HJ.o.lit (by decide))).cell rfl
   go_upto_region 5 with fail
   refine wp_region_held_drew (S := fun W => W.cell? ⟨w.heap.size, 1, none⟩ = some (.slice l.tA l.tn l.tk)) (by kernel_rfl) (HSo.o _ (gb_below (Below.refl _ _).drew _)) (fun hS => ?_)
   refine tkF 0 (v := ?_) ?_ ?_
   rotate_left
   ·(intro W hSw; (try dsimp only at hSw); go_simp; try with_reducible rfl)
   try simp only [Act.put, List.setIfInBounds_toArray, List.set_cons_zero, List.set_cons_succ]
   iterate 3 (refine tkF 2 (v := ?_) ?_ ?_; rotate_left; · (intro W hSw; (try dsimp only at hSw); go_simp; try with_reducible rfl); try simp only [Act.put, List.setIfInBounds_toArray, List.set_cons_zero, List.set_cons_succ])
   obtain ⟨V0, hV9, HV0b⟩ : ∃ Z9, Z9 = wr.drew /\ Hid (Below wr.heap.size wr Z9) := ⟨_, rfl, (Below.refl _ _).drew⟩
   rw [<- hV9]
   clear hV9
   refine rd2 1 5 (fun K1 hK1 => ?gua) (fun K1 hK1 => ?gub)
   case' gua =>
    have s6 : V0.cell? ⟨gt, 4, none⟩ = some (.slice Av ms.length kv) := (HV0b.o.cell (p := ⟨gt, 4, none⟩) HJ.o.blk.lt).trans (HJ.o.blk.cell rfl)
    go_simp
    clear s6
    refine hK1.out _ _ (HSo.o _ (gb_below HV0b.o _)) (fun hS1 => ?_)
    refine rd 5 fun K2 hK2 => ?_
    refine wp_make _ _ _ 22 rfl wr.heap.size 3 i1 (.int .i64 0) 1 Tryz.underlying22 hi1 hi1z hi1s .i64 .i64 _ _ l.tn rfl rfl rfl rfl (by rw [hi1b]; omega) (by simp only [maxLen]; omega) HV0b.o.size ?_
    intro V1 hown9 hg9
    rw [made_clk] at hown9
    have hb9 : Below V0.heap.size V0 V1 := (Below.refl _ _).grown hg9 (Nat.le_refl _) (fun q hq => by cases hq)
    have HV1b := Lh (HV0b.o.trans (hb9.mono HV0b.o.size))
    obtain ⟨g2, hg2e, hg2, hR9⟩ := Rw.of_own hown9 (by omega)
    injection hg2e with hg2e
    injection hg2e with hg20 _
    rw [hg20]
    have HRw2 := Lh hR9
    clear hR9 hb9 hown9 hg9 hg20
    refine hK2.out _ _ (HSo.o _ (gb_below HV1b.o _)) (fun hS2 => ?_)
    refine rd 6 fun K3 hK3 => ?_
    go_simp
    have hbA := HV1b.o.alloc HV1b.o.size (.cells #[.slice (some ⟨g2, 0, none⟩) l.tn l.tn] 22)
   case' gub =>
    refine wp_make _ _ _ 22 rfl wr.heap.size 3 i1 (.int .i64 0) 1 Tryz.underlying22 hi1 hi1z hi1s .i64 .i64 _ _ l.tn rfl rfl rfl rfl (by rw [hi1b]; omega) (by simp only [maxLen]; omega) HV0b.o.size ?_
    intro V1 hown9 hg9
    rw [made_clk] at hown9
    have hb9 : Below V0.heap.size V0 V1 := (Below.refl _ _).grown hg9 (Nat.le_refl _) (fun q hq => by cases hq)
    have HV1b := Lh (HV0b.o.trans (hb9.mono HV0b.o.size))
    obtain ⟨g2, hg2e, hg2, hR9⟩ := Rw.of_own hown9 (by omega)
    injection hg2e with hg2e
    injection hg2e with hg20 _
    rw [hg20]
    have HRw2 := Lh hR9
    clear hR9 hb9 hown9 hg9 hg20
    refine hK1.out _ _ (HSo.o _ (gb_below HV1b.o _)) (fun hS1 => ?_)
    refine rd2 1 6 (fun K2 hK2 => ?guba) (fun K2 hK2 => ?gubb)
    case' guba =>
     have s6 : V1.cell? ⟨gt, 4, none⟩ = some (.slice Av ms.length kv) := (HV1b.o.cell (p := ⟨gt, 4, none⟩) HJ.o.blk.lt).trans (HJ.o.blk.cell rfl)
     go_simp
     clear s6
     refine hK2.out _ _ (HSo.o _ (gb_below HV1b.o _)) (fun hS2 => ?_)
     refine rd 6 fun K3 hK3 => ?_
     go_simp
     have hbA := HV1b.o.alloc HV1b.o.size (.cells #[.slice (some ⟨g2, 0, none⟩) l.tn l.tn] 22)
    case' gubb =>
     go_simp
     have hbA := HV1b.o.alloc HV1b.o.size (.cells #[.slice (some ⟨g2, 0, none⟩) l.tn l.tn] 22)
     refine hK2.out _ _ (HSo.o _ (gb_below hbA _)) (fun hS2 => ?_)
     refine rd 1 fun K3 hK3 => ?_
     have s6 : (V1.alloc (.cells #[.slice (some ⟨g2, 0, none⟩) l.tn l.tn] 22)).cell? ⟨gt, 4, none⟩ = some (.slice Av ms.length kv) := (hbA.cell (p := ⟨gt, 4, none⟩) HJ.o.blk.lt).trans (HJ.o.blk.cell rfl)
     go_simp
     clear s6
   all_goals (
    refine hK3.out _ _ (HSo.o _ (gb_below hbA _)) (fun hS3 => ?_)
    refine rd1 7 fun K4 hK4 => ?_
    refine step_app _ (by rfl) _ _ 72 (by rfl) w.heap.size 22 i2 (.slice none 0 0) 1 24 Tryz.underlying72 hi2 hi2z hi2s hi2b rfl (by decide) (.slice Av ms.length kv) ms.length (mhV l.tn (fun _ => l.tn) ms) (by rfl) (HJ.o.mo.below hbA) (V1.heap.size + 1) (some ⟨V1.heap.size, 0, none⟩) 1 1 [.slice (some ⟨g2, 0, none⟩) l.tn l.tn] (by rfl) (((Blk.new V1 22 _).sl rfl).up (by simp)) (one_sl _ _ _) (ms.length + 1) rfl _ rfl _ rfl (by have := HMj.o; simp only [maxLen]; omega) (by have := HMj.o; omega) (by have := HV1b.o.size; have := HJ.o.bel.size; rw [World.size_alloc]; omega) ?_
    intro A9 k9 W9 hown9 hg9 hat9 hk91 hk92
    have hgg := (gb_below hbA (Value.slice Av ms.length kv).ownBlock).trans hg9
    have hG9 := HJ.o.blk.grown hgg (own_nb HJ.o.mo HJ.o.blk (by decide))
    have d0 := hG9.cell (i := 4) rfl
    have df := hG9.frozen 4
    refine hK4.out _ _ (HSo.o _ hgg) (fun hS4 => ?_)
    refine tkF 8 (v := ?_) ?_ ?_
    rotate_left
    ·(intro W hSw; (try dsimp only at hSw); go_simp; try with_reducible rfl)
    try simp only [Act.put, List.setIfInBounds_toArray, List.set_cons_zero, List.set_cons_succ]
    refine rd 9 fun K5 hK5 => ?_
    go_simp
    have hS5 : (W9.setCell ⟨gt, 4, none⟩ (.slice A9 (ms.length + 1) k9)).cell? ⟨w.heap.size, 1, none⟩ = some (.slice l.tA l.tn l.tk) := (World.cell?_setCell_other _ _ _ _ (by simp)).trans hS4
    refine hK5.out _ _ hS5 (fun _ => ?_)
    refine wpAnyH_done (by kernel_rfl) ?_ _
    have hRA := HRw2.o.on (W' := V1.alloc (.cells #[.slice (some ⟨g2, 0, none⟩) l.tn l.tn] 22)) ((Below.refl _ _).alloc (Nat.le_refl _) _)
    have hR3 := hRA.gb hg9 (own_nr (HJ.o.mo.below hbA) hRA (by decide))
    have HN := Lh (HJ.o.mine (q := V1.heap.size + 1) (g := g2) hg2 hgg hR3 hown9 (by rw [World.size_alloc] at hat9; exact hat9) (by have := HV1b.o.size; omega) ⟨rfl, rfl⟩)
    clear hRA hR3 hown9 hg9 hat9 hgg hG9 d0 df hS5 hS4 hbA
    go_wp2_with fail
    go_roundg (gk - 1)
    case measure => omega
    case rel => exact ⟨j + 1, _, _, by omega, by rw [List.length_append, HMj.o]; rfl, by go_num, HN⟩)
  ·obtain rfl : j = l.tn := by omega
   go_wp2_with fail
   clear q1
   obtain ⟨wo, rfl⟩ : ∃ wo : World, wo = wr := ⟨_, rfl⟩
   have HMj := Lh hmj
   clear hmj
   go_loopg [5] l.wn (fun gk i wr => ∃ (j : Nat) (vd : Value) (ws : List (Nat × Nat)), j + gk = l.wn /\ ws.length = j /\ i = .int .i64 j /\ Hid (BgI wr w gt h1 l vm ms vd ws))
   case atStart => exact ⟨0, _, [], by omega, rfl, rfl, HJ⟩
   case round =>
    obtain ⟨j, vd, ws, hj, hmj, rfl, HQ⟩ := hrel
    have q0 := HQ.o.lit.cell (i := 0) rfl
    by_cases hlt : j < l.wn
    ·have e1 : (j : Int) < l.wn := by omega
     have HWj := Lh hmj
     clear hmj
     obtain ⟨Av, kv, hvv, hkv1, hkv2⟩ := own_form HQ.o.wo
     subst hvv
     have HSo : Hid (∀ W, wr.grownBy W (Value.slice Av ws.length kv).ownBlock -> W.cell? ⟨w.heap.size, 1, none⟩ = some (.slice l.tA l.tn l.tk)) := fun W hW => (HQ.o.lit.grown hW (own_nb HQ.o.wo HQ.o.lit (by decide))).cell rfl
     go_upto_region 9 with fail
     refine wp_region_held_drew (S := fun W => W.cell? ⟨w.heap.size, 1, none⟩ = some (.slice l.tA l.tn l.tk)) (by kernel_rfl) (HSo.o _ (gb_below (Below.refl _ _).drew _)) (fun hS => ?_)
     refine tkF 0 (v := ?_) ?_ ?_
     rotate_left
     ·(intro W hSw; (try dsimp only at hSw); go_simp; try with_reducible rfl)
     try simp only [Act.put, List.setIfInBounds_toArray, List.set_cons_zero, List.set_cons_succ]
     iterate 3 (refine tkF 2 (v := ?_) ?_ ?_; rotate_left; · (intro W hSw; (try dsimp only at hSw); go_simp; try with_reducible rfl); try simp only [Act.put, List.setIfInBounds_toArray, List.set_cons_zero, List.set_cons_succ])
     obtain ⟨V0, hV9, HV0b⟩ : ∃ Z9, Z9 = wr.drew /\ Hid (Below wr.heap.size wr Z9) := ⟨_, rfl, (Below.refl _ _).drew⟩
     rw [<- hV9]
     clear hV9
     refine rd2 1 5 (fun K1 hK1 => ?gva) (fun K1 hK1 => ?gvb)
     case' gva =>
      have s6 : V0.cell? ⟨gt, 5, none⟩ = some (.slice Av ws.length kv) := (HV0b.o.cell (p := ⟨gt, 5, none⟩) HQ.o.blk.lt).trans (HQ.o.blk.cell rfl)
      go_simp
      clear s6
      refine hK1.out _ _ (HSo.o _ (gb_below HV0b.o _)) (fun hS1 => ?_)
      refine rd 5 fun K2 hK2 => ?_
      refine wp_make _ _ _ 22 rfl wr.heap.size 3 i1 (.int .i64 0) 1 Tryz.underlying22 hi1 hi1z hi1s .i64 .i64 _ _ l.tn rfl rfl rfl rfl (by rw [hi1b]; omega) (by simp only [maxLen]; omega) HV0b.o.size ?_
      intro V1 hown9 hg9
      rw [made_clk] at hown9
      have hb9 : Below V0.heap.size V0 V1 := (Below.refl _ _).grown hg9 (Nat.le_refl _) (fun q hq => by cases hq)
      have HV1b := Lh (HV0b.o.trans (hb9.mono HV0b.o.size))
      obtain ⟨g2, hg2e, hg2, hR9⟩ := Rw.of_own hown9 (by omega)
      injection hg2e with hg2e
      injection hg2e with hg20 _
      rw [hg20]
      have HRw2 := Lh hR9
      clear hR9 hb9 hown9 hg9 hg20
      refine hK2.out _ _ (HSo.o _ (gb_below HV1b.o _)) (fun hS2 => ?_)
      refine rd 6 fun K3 hK3 => ?_
      go_simp
      have hbA := HV1b.o.alloc HV1b.o.size (.cells #[.slice (some ⟨g2, 0, none⟩) l.tn l.tn] 22)
     case' gvb =>
      refine wp_make _ _ _ 22 rfl wr.heap.size 3 i1 (.int .i64 0) 1 Tryz.underlying22 hi1 hi1z hi1s .i64 .i64 _ _ l.tn rfl rfl rfl rfl (by rw [hi1b]; omega) (by simp only [maxLen]; omega) HV0b.o.size ?_
      intro V1 hown9 hg9
      rw [made_clk] at hown9
      have hb9 : Below V0.heap.size V0 V1 := (Below.refl _ _).grown hg9 (Nat.le_refl _) (fun q hq => by cases hq)
      have HV1b := Lh (HV0b.o.trans (hb9.mono HV0b.o.size))
      obtain ⟨g2, hg2e, hg2, hR9⟩ := Rw.of_own hown9 (by omega)
      injection hg2e with hg2e
      injection hg2e with hg20 _
      rw [hg20]
      have HRw2 := Lh hR9
      clear hR9 hb9 hown9 hg9 hg20
      refine hK1.out _ _ (HSo.o _ (gb_below HV1b.o _)) (fun hS1 => ?_)
      refine rd2 1 6 (fun K2 hK2 => ?gvba) (fun K2 hK2 => ?gvbb)
      case' gvba =>
       have s6 : V1.cell? ⟨gt, 5, none⟩ = some (.slice Av ws.length kv) := (HV1b.o.cell (p := ⟨gt, 5, none⟩) HQ.o.blk.lt).trans (HQ.o.blk.cell rfl)
       go_simp
       clear s6
       refine hK2.out _ _ (HSo.o _ (gb_below HV1b.o _)) (fun hS2 => ?_)
       refine rd 6 fun K3 hK3 => ?_
       go_simp
       have hbA := HV1b.o.alloc HV1b.o.size (.cells #[.slice (some ⟨g2, 0, none⟩) l.tn l.tn] 22)
      case' gvbb =>
       go_simp
       have hbA := HV1b.o.alloc HV1b.o.size (.cells #[.slice (some ⟨g2, 0, none⟩) l.tn l.tn] 22)
       refine hK2.out _ _ (HSo.o _ (gb_below hbA _)) (fun hS2 => ?_)
       refine rd 1 fun K3 hK3 => ?_
       have s6 : (V1.alloc (.cells #[.slice (some ⟨g2, 0, none⟩) l.tn l.tn] 22)).cell? ⟨gt, 5, none⟩ = some (.slice Av ws.length kv) := (hbA.cell (p := ⟨gt, 5, none⟩) HQ.o.blk.lt).trans (HQ.o.blk.cell rfl)
       go_simp
       clear s6
     all_goals (
      refine hK3.out _ _ (HSo.o _ (gb_below hbA _)) (fun hS3 => ?_)
      refine rd1 7 fun K4 hK4 => ?_
      refine step_app _ (by rfl) _ _ 72 (by rfl) w.heap.size 22 i2 (.slice none 0 0) 1 24 Tryz.underlying72 hi2 hi2z hi2s hi2b rfl (by decide) (.slice Av ws.length kv) ws.length (whV l.tn ws) (by rfl) (HQ.o.wo.below hbA) (V1.heap.size + 1) (some ⟨V1.heap.size, 0, none⟩) 1 1 [.slice (some ⟨g2, 0, none⟩) l.tn l.tn] (by rfl) (((Blk.new V1 22 _).sl rfl).up (by simp)) (one_sl _ _ _) (ws.length + 1) rfl _ rfl _ rfl (by have := HWj.o; simp only [maxLen]; omega) (by have := HWj.o; omega) (by have := HV1b.o.size; have := HQ.o.bel.size; rw [World.size_alloc]; omega) ?_
      intro A9 k9 W9 hown9 hg9 hat9 hk91 hk92
      have hgg := (gb_below hbA (Value.slice Av ws.length kv).ownBlock).trans hg9
      have hG9 := HQ.o.blk.grown hgg (own_nb HQ.o.wo HQ.o.blk (by decide))
      have d0 := hG9.cell (i := 5) rfl
      have df := hG9.frozen 5
      refine hK4.out _ _ (HSo.o _ hgg) (fun hS4 => ?_)
      refine tkF 8 (v := ?_) ?_ ?_
      rotate_left
      ·(intro W hSw; (try dsimp only at hSw); go_simp; try with_reducible rfl)
      try simp only [Act.put, List.setIfInBounds_toArray, List.set_cons_zero, List.set_cons_succ]
      refine rd 9 fun K5 hK5 => ?_
      go_simp
      have hS5 : (W9.setCell ⟨gt, 5, none⟩ (.slice A9 (ws.length + 1) k9)).cell? ⟨w.heap.size, 1, none⟩ = some (.slice l.tA l.tn l.tk) := (World.cell?_setCell_other _ _ _ _ (by simp)).trans hS4
      refine hK5.out _ _ hS5 (fun _ => ?_)
      refine wpAnyH_done (by kernel_rfl) ?_ _
      have hRA := HRw2.o.on (W' := V1.alloc (.cells #[.slice (some ⟨g2, 0, none⟩) l.tn l.tn] 22)) ((Below.refl _ _).alloc (Nat.le_refl _) _)
      have hR3 := hRA.gb hg9 (own_nr (HQ.o.wo.below hbA) hRA (by decide))
      have HN := Lh (HQ.o.word (q := V1.heap.size + 1) (g := g2) hg2 hgg hR3 hown9 (by rw [World.size_alloc] at hat9; exact hat9) (by have := HV1b.o.size; omega))
      clear hRA hR3 hown9 hg9 hat9 hgg hG9 d0 df hS5 hS4 hbA
      go_wp2_with fail
      go_roundg (gk - 1)
      case measure => omega
      case rel => exact ⟨j + 1, _, _, by omega, by rw [List.length_append, HWj.o]; rfl, by go_num, HN⟩)
    ·obtain rfl : j = l.wn := by omega
     have hT := HQ.o.blk
     have HRs := Lh HQ.o.res
     obtain ⟨A1, k1, e1, _, _⟩ := own_form HQ.o.mo
     obtain ⟨A2, k2, e2, _, _⟩ := own_form HQ.o.wo
     subst e1 e2
     go_upto_region 10 with fail
     refine wp_region_lit ?_
     refine wpList_load_row rfl _ _ rfl gt rfl 80 _ (0, 0) _ hT Tryz.underlying80 rfl size_st7 ?_
     refine wpList_store_row rfl _ _ _ rfl (w.heap.size + 1) _ rfl rfl _ _ HRs.o size_st7 rfl (st7_one _ _ _ _ _ _ _ _ _ _ _ _ _ _ _ _ _ _ _ _ _) ?_
     have HR := Lh (setRow_heap wr (w.heap.size + 1) _ (List.toArray (stL h1 l.tn l.wn ++ [Value.slice A1 ms.length k1, Value.slice A2 ws.length k2, Value.slice none 0 0])) _ _ HRs.o)
     have hmj2 := HMj.o
     go_wp2_with fail
     refine bodyPost_ret_by (results_cell_row rfl _ _ (w.heap.size + 1) 80 _ (0, 0) _ rfl HR.o Tryz.underlying80 rfl size_st7) rfl ?_
     obtain ⟨gm, km, gd, kd, e3, e4, hR⟩ := HQ.o.end (W' := wr.setRow (w.heap.size + 1) (List.toArray (stL h1 l.tn l.wn ++ [Value.slice A1 ms.length k1, Value.slice A2 ws.length k2, Value.slice none 0 0]))) hmj2 hmj n1 n3 (fun g hg => rowK hg) (rowB HQ.o.bel (by omega))
     rw [e3, e4] at hR ⊢
     exact ⟨⟨h1, gm, km, ms, gd, kd, ws, .slice none 0 0, [], fun _ => l.tn, fun _ => False⟩, rfl, hR, rowB HQ.o.bel (by omega)⟩
end Go.Proofs.YtgjdgapfnfhklaaGreat
