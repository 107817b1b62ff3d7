/-
reclaimref27.Copy: a state with its clocks in memory of its 
-/
import Derived.Test.YtgjdgapfnfhklaaGreatZ25
import Derived.Test.YtgjdgapfnfhklaaGreatZ11
import Derived.Test.YtgjdgapfnfhklaaGreatRb27
set_option linter.unusedSimpArgs false
set_option linter.unusedVariables false
set_option maxRecDepth 100000
set_option maxHeartbeats 16000000
namespace Go.Proofs.YtgjdgapfnfhklaaGreat
open Go.RowKit
theorem info_ev5 : (Tryz.prog.info? 147).map (fun i => (i.zero, i.size, i.bytes)) = some (some (.agg #[.int .i64 0, .int .i64 0, .int .i64 0, .bool false, .slice none 0 0]), 5, 56) := by kernel_rfl
theorem evc_all (n : Nat) (es : List Ev) (cs : List (Nat × Nat)) : ∀ u ∈ evcV n es cs, u.oneCell' = true := by
 intro u hu
 unfold evcV at hu
 obtain ⟨p, _, hp⟩ := List.mem_flatMap.1 hu
 simp at hp
 rcases hp with rfl | rfl | rfl | rfl | rfl <;> rfl
theorem own_rowC {w : World} {B e s n g : Nat} {t : TypeId} {v : Value} {xs cs : List Value} {ds : Array Value} (h : w.ownsRow B e s v n xs) (hB : Blk w g t cs) (hne : e ≠ t) : (w.setRow g ds).ownsRow B e s v n xs := by
 have hn := own_nb h hB hne
 refine ⟨h.1, ?_⟩
 rcases h.2 with h0 | ⟨q, cap, cur, hv, hb, hg, h3⟩
 ·exact Or.inl h0
 ·refine Or.inr ⟨q, cap, cur, hv, hb, ?_, h3⟩
  rw [rowK (fun he => hn (by rw [hv, he]; rfl))]
  exact hg
def CpR27 (n nw : Nat) (S : LS) (es : List Ev) (M : RM) (w : World) (e : Ending) (w' : World) : Prop := ∃ M', e = .returned (rsV M' n nw) /\ RSB w' w.heap.size n nw S (xAt es) es M' /\ M'.cs = M.cs /\ M'.Z = (fun q => ∃ p ∈ M.cs, p.1 = q) /\ Below w.heap.size w w'
structure CpI (W w : World) (gt : Nat) (h : SH) (M : RM) (n nw : Nat) (S : LS) (x : TS) (vm : Value) (ms : List (Nat × Nat)) (vd : Value) (ws : List (Nat × Nat)) : Prop where
 bel : Below w.heap.size w W
 gtB : w.heap.size + 1 < gt
 src : Blk W w.heap.size 80 (rsL M n nw)
 res : Blk W (w.heap.size + 1) 80 [.slice none 0 0, .slice none 0 0, .slice none 0 0, .slice none 0 0, .slice none 0 0, .slice none 0 0, .slice none 0 0]
 blk : Blk W gt 80 (stL h n nw ++ [vm, vd, .slice none 0 0])
 st : StAt W h n nw S
 nu : NewS w.heap.size h
 mo : W.ownsRow w.heap.size 22 1 vm ms.length (whV n ms)
 mr : ∀ (i : Nat) (p : Nat × Nat), ms[i]? = some p -> w.heap.size <= p.1 /\ Rw W p.1 3 1 n p.2 (ints (clkL n (x.m i)))
 wo : W.ownsRow w.heap.size 22 1 vd ws.length (whV n ws)
 wr : ∀ (a : Nat) (p : Nat × Nat), ws[a]? = some p -> (w.heap.size <= p.1 /\ p.1 ∉ (h.gw :: h.gp :: ms.map Prod.fst)) /\ Rw W p.1 3 1 n p.2 (ints (clkL n (x.wd a)))
 nd : (h.gw :: h.gp :: ms.map Prod.fst).Nodup
 ap : vm.ownBlock = none ∨ vm.ownBlock ≠ vd.ownBlock
section
variable {W w : World} {gt : Nat} {h : SH} {M : RM} {n nw : Nat} {S : LS} {x : TS} {vm vd : Value} {ms ws : List (Nat × Nat)}
theorem CpI.mine {W3 : World} {g k q : Nat} {vm' : Value} (H : CpI W w gt h M n nw S x vm ms vd ws) (hg : W.heap.size <= g) (hG : W.grownBy W3 vm.ownBlock) (hr : Rw W3 g 3 1 n k (ints (clkL n (x.m ms.length))))
  (ho : W3.ownsRow w.heap.size 22 1 vm' (ms.length + 1) (whV n ms ++ [.slice (some ⟨g, 0, none⟩) n k])) (hat : vm'.ownBlock = vm.ownBlock ∨ vm'.ownBlock = some q) (hq : W.heap.size <= q) (hws : vd = .slice none 0 0 /\ ws = []) :
  CpI (W3.setCell ⟨gt, 4, none⟩ vm') w gt h M n nw S x vm' (ms ++ [(g, k)]) vd ws := by
 obtain ⟨rfl, rfl⟩ := hws
 have e1 := own_nb H.mo H.blk (by decide)
 have hB3 := H.blk.grown hG e1
 have hfar : ∀ {q : Nat} {t : TypeId} {cs : List Value}, Blk W q t cs -> t ≠ 22 -> q ≠ gt -> Blk (W3.setCell ⟨gt, 4, none⟩ vm') q t cs := fun hb hne hn => (hb.grown hG (own_nb H.mo hb (fun e => hne e.symm))).far hn _
 have hrw : ∀ {q sz m k : Nat} {t : TypeId} {xs : List Value}, Rw W q t sz m k xs -> 22 ≠ t -> t ≠ 80 -> Rw (W3.setCell ⟨gt, 4, none⟩ vm') q t sz m k xs := fun hr h1 h2 => (hr.gb hG (own_nr H.mo hr h1)).far (hr.nb H.blk h2) _
 have hgB := H.bel.size
 have h0 : ∀ p ∈ (h.gw :: h.gp :: ms.map Prod.fst), p < W.heap.size := by
  intro p hp
  simp only [List.mem_cons] at hp
  rcases hp with rfl | rfl | hp
  ·exact H.st.w.lt
  ·exact H.st.p.lt
  ·obtain ⟨i, hi, he⟩ := List.mem_iff_getElem.1 hp
   rw [List.length_map] at hi
   rw [List.getElem_map] at he
   rw [<- he]
   exact (H.mr i _ (List.getElem?_eq_getElem hi)).2.lt
 exact {
  bel := (H.bel.grown hG H.bel.size (fun q hq => (H.mo.lt q hq).1)).setCell (by have := H.gtB; dsimp only; omega) _
  gtB := H.gtB
  src := hfar H.src (by decide) (by have := H.gtB; omega)
  res := hfar H.res (by decide) (by have := H.gtB; omega)
  blk := hB3.set_ 4 vm'
  st := ⟨hrw H.st.w (by decide) (by decide), hrw H.st.r (by decide) (by decide), hrw H.st.p (by decide) (by decide), hrw H.st.b (by decide) (by decide), H.st.ne⟩
  nu := H.nu
  mo := by
   have h1 : (whV n (ms ++ [(g, k)])) = whV n ms ++ [.slice (some ⟨g, 0, none⟩) n k] := by simp [whV]
   rw [h1, List.length_append]
   exact own_far ho hB3 (by decide)
  mr := fun i p hp => by
   by_cases hi : i < ms.length
   ·rw [List.getElem?_append_left hi] at hp
    exact ⟨(H.mr i p hp).1, hrw (H.mr i p hp).2 (by decide) (by decide)⟩
   ·have hi2 : i = ms.length := by
     have := (List.getElem?_eq_some_iff.1 hp).1
     simp at this
     omega
    subst hi2
    rw [List.getElem?_append_right (Nat.le_refl _), Nat.sub_self] at hp
    simp at hp
    subst hp
    exact ⟨by dsimp only; omega, hr.far (hr.nb hB3 (by decide)) _⟩
  wo := World.ownsRow_nil _ _ _ _
  wr := fun a p hp => by simp at hp
  nd := by
   have h1 : (h.gw :: h.gp :: (ms ++ [(g, k)]).map Prod.fst) = (h.gw :: h.gp :: ms.map Prod.fst) ++ [g] := by simp
   rw [h1, List.nodup_append]
   refine ⟨H.nd, by simp, ?_⟩
   intro a ha b hb
   simp at hb
   subst hb
   have := h0 a ha
   omega
  ap := by
   cases hv : vm'.ownBlock with
   | none => exact Or.inl rfl
   | some r => exact Or.inr (by show some r ≠ none; simp) }
theorem CpI.word {W3 : World} {g k q : Nat} {vd' : Value} (H : CpI W w gt h M n nw S x vm ms vd ws) (hg : W.heap.size <= g) (hG : W.grownBy W3 vd.ownBlock) (hr : Rw W3 g 3 1 n k (ints (clkL n (x.wd ws.length))))
  (ho : W3.ownsRow w.heap.size 22 1 vd' (ws.length + 1) (whV n ws ++ [.slice (some ⟨g, 0, none⟩) n k])) (hat : vd'.ownBlock = vd.ownBlock ∨ vd'.ownBlock = some q) (hq : W.heap.size <= q) :
  CpI (W3.setCell ⟨gt, 5, none⟩ vd') w gt h M n nw S x vm ms vd' (ws ++ [(g, k)]) := by
 have e1 := own_nb H.wo H.blk (by decide)
 have hB3 := H.blk.grown hG e1
 have hfar : ∀ {q : Nat} {t : TypeId} {cs : List Value}, Blk W q t cs -> t ≠ 22 -> q ≠ gt -> Blk (W3.setCell ⟨gt, 5, none⟩ vd') q t cs := fun hb hne hn => (hb.grown hG (own_nb H.wo hb (fun e => hne e.symm))).far hn _
 have hrw : ∀ {q sz m k : Nat} {t : TypeId} {xs : List Value}, Rw W q t sz m k xs -> 22 ≠ t -> t ≠ 80 -> Rw (W3.setCell ⟨gt, 5, none⟩ vd') q t sz m k xs := fun hr h1 h2 => (hr.gb hG (own_nr H.wo hr h1)).far (hr.nb H.blk h2) _
 have hgB := H.bel.size
 have h0 : ∀ p ∈ (h.gw :: h.gp :: ms.map Prod.fst), p < W.heap.size := by
  intro p hp
  simp only [List.mem_cons] at hp
  rcases hp with rfl | rfl | hp
  ·exact H.st.w.lt
  ·exact H.st.p.lt
  ·obtain ⟨i, hi, he⟩ := List.mem_iff_getElem.1 hp
   rw [List.length_map] at hi
   rw [List.getElem_map] at he
   rw [<- he]
   exact (H.mr i _ (List.getElem?_eq_getElem hi)).2.lt
 exact {
  bel := (H.bel.grown hG H.bel.size (fun q hq => (H.wo.lt q hq).1)).setCell (by have := H.gtB; dsimp only; omega) _
  gtB := H.gtB
  src := hfar H.src (by decide) (by have := H.gtB; omega)
  res := hfar H.res (by decide) (by have := H.gtB; omega)
  blk := hB3.set_ 5 vd'
  st := ⟨hrw H.st.w (by decide) (by decide), hrw H.st.r (by decide) (by decide), hrw H.st.p (by decide) (by decide), hrw H.st.b (by decide) (by decide), H.st.ne⟩
  nu := H.nu
  mo := own_far (H.mo.kept hG H.ap) hB3 (by decide)
  mr := fun i p hp => ⟨(H.mr i p hp).1, hrw (H.mr i p hp).2 (by decide) (by decide)⟩
  wo := by
   have h1 : (whV n (ws ++ [(g, k)])) = whV n ws ++ [.slice (some ⟨g, 0, none⟩) n k] := by simp [whV]
   rw [h1, List.length_append]
   exact own_far ho hB3 (by decide)
  wr := fun i p hp => by
   by_cases hi : i < ws.length
   ·rw [List.getElem?_append_left hi] at hp
    exact ⟨(H.wr i p hp).1, hrw (H.wr i p hp).2 (by decide) (by decide)⟩
   ·have hi2 : i = ws.length := by
     have := (List.getElem?_eq_some_iff.1 hp).1
     simp at this
     omega
    subst hi2
    rw [List.getElem?_append_right (Nat.le_refl _), Nat.sub_self] at hp
    simp at hp
    subst hp
    exact ⟨⟨by dsimp only; omega, fun hm => by have := h0 _ hm; dsimp only at this; omega⟩, hr.far (hr.nb hB3 (by decide)) _⟩
  nd := H.nd
  ap := by
   cases hv : vm.ownBlock with
   | none => exact Or.inl rfl
   | some r =>
    refine Or.inr ?_
    rcases hat with h1 | h1
    ·rw [h1, <- hv]
     rcases H.ap with h2 | h2
     ·rw [hv] at h2; cases h2
     ·exact h2
    ·rw [h1]
     have := (H.mo.lt r hv).2
     intro e
     injection e with e
     omega }
theorem whV_mh (n : Nat) (l : List (Nat × Nat)) : whV n l = mhV n (fun i => (l.getD i (0, 0)).2) (l.map Prod.fst) := by
 unfold whV mhV
 apply List.ext_getElem?
 intro i
 rw [List.getElem?_map, List.getElem?_map, List.getElem?_zipIdx, List.getElem?_map]
 cases hl : l[i]? with
 | none => simp
 | some p => simp [sl1, List.getD_eq_getElem?_getD, hl]
theorem CpI.end {W' : World} {B : Nat} {es : List Ev} {vE : Value} (H : CpI W w gt h M n nw S (xAt es) vm ms vd ws) (hM : RSB w B n nw S (xAt es) es M) (hm : ms.length = n) (hw : ws.length = nw) (n1 : 1 <= n) (n3 : 1 <= nw)
  (hE : W'.ownsRow w.heap.size 147 5 vE es.length (evcV n es M.cs)) (hk : ∀ g, g < W.heap.size -> g ≠ gt -> g ≠ w.heap.size + 1 -> W'.heap[g]? = W.heap[g]?) (hb : Below w.heap.size w W') :
  ∃ gm km gd kd, vm = .slice (some ⟨gm, 0, none⟩) n km /\ vd = .slice (some ⟨gd, 0, none⟩) nw kd /\ RSB W' w.heap.size n nw S (xAt es) es ⟨h, gm, km, ms.map Prod.fst, gd, kd, ws, vE, M.cs, fun i => (ms.getD i (0, 0)).2, fun q => ∃ p ∈ M.cs, p.1 = q⟩ := by
 have hmo := H.mo
 have hwo := H.wo
 rw [hm] at hmo
 rw [hw] at hwo
 obtain ⟨A1, k1, e1, _, _⟩ := own_form hmo
 obtain ⟨A2, k2, e2, _, _⟩ := own_form hwo
 rw [e1] at hmo
 rw [e2] at hwo
 obtain ⟨gm, f1, b1, r1⟩ := Rw.of_own hmo (by omega)
 obtain ⟨gd, f2, b2, r2⟩ := Rw.of_own hwo (by omega)
 subst f1 f2
 have hrw : ∀ {q sz m k : Nat} {t : TypeId} {xs : List Value}, Rw W q t sz m k xs -> t ≠ 80 -> Rw W' q t sz m k xs := fun hr h2 => hr.kept (hk _ hr.lt (fun e => hr.nb H.blk h2 e) (fun e => hr.nb H.res h2 e))
 have hlow : ∀ p ∈ (h.gw :: h.gp :: ms.map Prod.fst), w.heap.size <= p := by
  intro p hp
  simp only [List.mem_cons] at hp
  rcases hp with rfl | rfl | hp
  ·exact H.nu.1
  ·exact H.nu.2.2.1
  ·obtain ⟨i, hi, he⟩ := List.mem_iff_getElem.1 hp
   rw [List.length_map] at hi
   rw [List.getElem_map] at he
   rw [<- he]
   exact (H.mr i _ (List.getElem?_eq_getElem hi)).1
 refine ⟨gm, k1, gd, k2, e1, e2, {
  st := ⟨hrw H.st.w (by decide), hrw H.st.r (by decide), hrw H.st.p (by decide), hrw H.st.b (by decide), H.st.ne⟩
  nu := H.nu
  gmB := b1
  gdB := b2
  mi := by rw [<- whV_mh]; exact hrw r1 (by decide)
  mr := fun i g hg => by
   rw [List.getElem?_map] at hg
   cases hp : ms[i]? with
   | none => rw [hp] at hg; cases hg
   | some p =>
    rw [hp] at hg
    injection hg with hg
    subst hg
    have h9 := H.mr i p hp
    have hc : (ms.getD i (0, 0)).2 = p.2 := by rw [List.getD_eq_getElem?_getD, hp]; rfl
    refine ⟨h9.1, ?_⟩
    dsimp only
    rw [hc]
    exact hrw h9.2 (by decide)
  wi := hrw r2 (by decide)
  wr := fun i p hp => ⟨(H.wr i p hp).1.2, hrw (H.wr i p hp).2 (by decide)⟩
  ev := hE
  cl := hM.cl
  cr := fun i p hp => by
   have h9 := (hM.cr i p hp).2
   have hl := h9.lt
   exact ⟨fun hm9 => by have := hlow _ hm9; omega, h9.on hb⟩
  nd := H.nd
  gg := by
   rcases H.ap with h9 | h9
   ·rw [e1] at h9; cases h9
   ·intro e
    have e : gm = gd := e
    rw [e1, e2, e] at h9
    exact h9 rfl
  wB := fun i p hp => (H.wr i p hp).1.1
  cB := fun i p hp => Or.inr ⟨p, List.mem_of_getElem? hp, rfl⟩ }⟩
end
theorem copy27_any (n nw : Nat) (w : World) (B : Nat) (S : LS) (es : List Ev) (M : RM) (hr : RSB w B n nw S (xAt es) es M) (n1 : 1 <= n) (n2 : n <= 4) (n3 : 1 <= nw) (n4 : nw <= 6) (hen : es.length <= 100000) :
  Calls Tryz.prog 21 #[rsV M n nw] w (CpR27 n nw S es M w) := by
 obtain ⟨vA, vk, hvE, hvk1, hvk2⟩ := own_form hr.ev
 have HvE := Lh hvE
 unfold rsV
 rw [hvE]
 obtain ⟨w0, hw0⟩ : ∃ w0 : World, w0 = (w.alloc (.cells #[.slice (some ⟨M.h.gw, 0, none⟩) nw M.h.kw, .slice (some ⟨M.h.gr, 0, none⟩) n M.h.kr, .slice (some ⟨M.h.gp, 0, none⟩) n M.h.kp, .slice (some ⟨M.h.gb, 0, none⟩) n M.h.kb, .slice (some ⟨M.gm, 0, none⟩) n M.km, .slice (some ⟨M.gd, 0, none⟩) nw M.kd, .slice vA es.length vk] 80)).alloc (.cells #[.slice none 0 0, .slice none 0 0, .slice none 0 0, .slice none 0 0, .slice none 0 0, .slice none 0 0, .slice none 0 0] 80) := ⟨_, rfl⟩
 have HB0 : Hid (Blk w0 w.heap.size 80 [.slice (some ⟨M.h.gw, 0, none⟩) nw M.h.kw, .slice (some ⟨M.h.gr, 0, none⟩) n M.h.kr, .slice (some ⟨M.h.gp, 0, none⟩) n M.h.kp, .slice (some ⟨M.h.gb, 0, none⟩) n M.h.kb, .slice (some ⟨M.gm, 0, none⟩) n M.km, .slice (some ⟨M.gd, 0, none⟩) nw M.kd, .slice vA es.length vk]) := by rw [hw0]; exact Lh ((Blk.new w 80 [.slice (some ⟨M.h.gw, 0, none⟩) nw M.h.kw, .slice (some ⟨M.h.gr, 0, none⟩) n M.h.kr, .slice (some ⟨M.h.gp, 0, none⟩) n M.h.kp, .slice (some ⟨M.h.gb, 0, none⟩) n M.h.kb, .slice (some ⟨M.gm, 0, none⟩) n M.km, .slice (some ⟨M.gd, 0, none⟩) nw M.kd, .slice vA es.length vk]).alloc _)
 have HZ0 : Hid (Blk w0 (w.heap.size + 1) 80 [.slice none 0 0, .slice none 0 0, .slice none 0 0, .slice none 0 0, .slice none 0 0, .slice none 0 0, .slice none 0 0]) := by
  rw [hw0]
  have h9 := Blk.new (w.alloc (.cells #[.slice (some ⟨M.h.gw, 0, none⟩) nw M.h.kw, .slice (some ⟨M.h.gr, 0, none⟩) n M.h.kr, .slice (some ⟨M.h.gp, 0, none⟩) n M.h.kp, .slice (some ⟨M.h.gb, 0, none⟩) n M.h.kb, .slice (some ⟨M.gm, 0, none⟩) n M.km, .slice (some ⟨M.gd, 0, none⟩) nw M.kd, .slice vA es.length vk] 80)) 80 [.slice none 0 0, .slice none 0 0, .slice none 0 0, .slice none 0 0, .slice none 0 0, .slice none 0 0, .slice none 0 0]
  rw [World.size_alloc] at h9
  exact Lh h9
 have HW0 : Hid (Below w.heap.size w w0) := by rw [hw0]; exact Lh (((Below.refl _ _).alloc (Nat.le_refl _) _).alloc (by simp) _)
 have HR := Lh hr
 have HWe := Lh hw0
 have hz0 : w.heap.size + 1 < w0.heap.size := HZ0.o.lt
 clear hr hw0 hvE
 obtain ⟨i2, hi2, hi2z, hi2s, hi2b⟩ := info_parts info_is
 obtain ⟨ie, hie, hiez, hies, hieb⟩ := info_parts info_ev5
 go_enter Tryz.func21, Tryz.ntmps21
 go_upto_region 1 with fail
 rw [<- HWe.o]
 clear HWe
 have q0 := HB0.o.cell (i := 0) rfl
 have q1 := HB0.o.cell (i := 1) rfl
 have q2 := HB0.o.cell (i := 2) rfl
 have q3 := HB0.o.cell (i := 3) rfl
 go_wp2_with fail
 refine (copy19_any M.h n nw S w0 (HR.o.on HW0.o).st n1 n2 n3 n4).mono ?_
 rintro e w1 ⟨h1, rfl, hnu1, hst1, hb1⟩
 have hx1 : Blk (w1.alloc (.cells #[.slice none 0 0, .slice none 0 0, .slice none 0 0, .slice none 0 0, .slice none 0 0, .slice none 0 0, .slice none 0 0] 80)) w1.heap.size 80 [.slice none 0 0, .slice none 0 0, .slice none 0 0, .slice none 0 0, .slice none 0 0, .slice none 0 0, .slice none 0 0] := Blk.new w1 80 [.slice none 0 0, .slice none 0 0, .slice none 0 0, .slice none 0 0, .slice none 0 0, .slice none 0 0, .slice none 0 0]
 go_upto_region 2 with (refine wpList_store_row rfl _ _ _ rfl w1.heap.size #[.slice (some ⟨h1.gw, 0, none⟩) nw h1.kw, .slice (some ⟨h1.gr, 0, none⟩) n h1.kr, .slice (some ⟨h1.gp, 0, none⟩) n h1.kp, .slice (some ⟨h1.gb, 0, none⟩) n h1.kb, .slice none 0 0, .slice none 0 0, .slice none 0 0] rfl rfl 80 _ hx1 size_st7 rfl (st7_one _ _ _ _ _ _ _ _ _ _ _ _ _ _ _ _ _ _ _ _ _) ?_)
 (try simp only [Act.put])
 go_upto_region 2 with fail
 obtain ⟨gt, hgt⟩ : ∃ gt, gt = w1.heap.size := ⟨_, rfl⟩
 obtain ⟨w2, hw2, HI⟩ : ∃ Z9, Z9 = (w1.alloc (.cells #[.slice none 0 0, .slice none 0 0, .slice none 0 0, .slice none 0 0, .slice none 0 0, .slice none 0 0, .slice none 0 0] 80)).setRow w1.heap.size #[.slice (some ⟨h1.gw, 0, none⟩) nw h1.kw, .slice (some ⟨h1.gr, 0, none⟩) n h1.kr, .slice (some ⟨h1.gp, 0, none⟩) n h1.kp, .slice (some ⟨h1.gb, 0, none⟩) n h1.kb, .slice none 0 0, .slice none 0 0, .slice none 0 0] /\ Hid (CpI Z9 w gt h1 M n nw S (xAt es) (.slice none 0 0) [] (.slice none 0 0) []) := by
  have hbz := hb1.size
  have hbel : Below w.heap.size w w1 := HW0.o.trans (hb1.mono HW0.o.size)
  have hA : Below w1.heap.size w1 ((w1.alloc (.cells #[.slice none 0 0, .slice none 0 0, .slice none 0 0, .slice none 0 0, .slice none 0 0, .slice none 0 0, .slice none 0 0] 80)).setRow w1.heap.size #[.slice (some ⟨h1.gw, 0, none⟩) nw h1.kw, .slice (some ⟨h1.gr, 0, none⟩) n h1.kr, .slice (some ⟨h1.gp, 0, none⟩) n h1.kp, .slice (some ⟨h1.gb, 0, none⟩) n h1.kb, .slice none 0 0, .slice none 0 0, .slice none 0 0]) := rowB ((Below.refl _ _).alloc (Nat.le_refl _) _) (Nat.le_refl _)
  refine ⟨_, rfl, ?_⟩
  rw [hgt]
  refine Lh {
   bel := hbel.trans (hA.mono hbel.size)
   gtB := by omega
   src := by
    have h9 := (HB0.o.below hb1 HB0.o.lt).below hA (by have := HB0.o.lt; omega)
    show Blk _ w.heap.size 80 (stL M.h n nw ++ [.slice (some ⟨M.gm, 0, none⟩) n M.km, .slice (some ⟨M.gd, 0, none⟩) nw M.kd, M.vE])
    rw [HvE.o]
    exact h9
   res := (HZ0.o.below hb1 HZ0.o.lt).below hA (by have := HZ0.o.lt; omega)
   blk := setRow_heap _ _ _ #[.slice (some ⟨h1.gw, 0, none⟩) nw h1.kw, .slice (some ⟨h1.gr, 0, none⟩) n h1.kr, .slice (some ⟨h1.gp, 0, none⟩) n h1.kp, .slice (some ⟨h1.gb, 0, none⟩) n h1.kb, .slice none 0 0, .slice none 0 0, .slice none 0 0] _ _ hx1
   st := hst1.on hA
   nu := ⟨Nat.le_trans HW0.o.size hnu1.1, Nat.le_trans HW0.o.size hnu1.2.1, Nat.le_trans HW0.o.size hnu1.2.2.1, Nat.le_trans HW0.o.size hnu1.2.2.2⟩
   mo := World.ownsRow_nil _ _ _ _
   mr := fun i g hg => by simp at hg
   wo := World.ownsRow_nil _ _ _ _
   wr := fun i g hg => by simp at hg
   nd := by
    have := hst1.ne.2.1
    simp [this]
   ap := Or.inl rfl }
 rw [<- hw2, <- hgt]
 clear hw2 hgt hx1 hnu1 hst1 hb1 q0 q1 q2 q3 HB0 HZ0 HW0 hz0
 go_wp2_with fail
 go_loopg [4] n (fun gk i wr => ∃ (j : Nat) (vm : Value) (ms : List (Nat × Nat)), j + gk = n /\ ms.length = j /\ i = .int .i64 j /\ Hid (CpI wr w gt h1 M n nw S (xAt es) vm ms (.slice none 0 0) []))
 case atStart => exact ⟨0, _, [], by omega, rfl, rfl, HI⟩
 case round =>
  obtain ⟨j, vm, ms, hj, hmj, rfl, HJ⟩ := hrel
  have q4 := HJ.o.src.cell (i := 4) rfl
  by_cases hlt : j < n
  ·have e1 : (j : Int) < n := by omega
   have e0 : (0 : Int) <= j := by omega
   have d1 : decide (j < n) = true := by simpa using hlt
   have HMj := Lh hmj
   clear hmj
   obtain ⟨Av, kv, hvv, hkv1, hkv2⟩ := own_form HJ.o.mo
   subst hvv
   obtain ⟨sg, hsg⟩ := at_lt (show j < M.ms.length by rw [HR.o.ml]; exact hlt)
   obtain ⟨sk, hsk⟩ : ∃ sk, sk = M.kc j := ⟨_, rfl⟩
   have hHd := HR.o.mi.on HJ.o.bel
   have hHl : M.gm < w.heap.size := HR.o.mi.lt
   have HHl := Lh hHl
   have hGet : (mhV n M.kc M.ms)[j]? = some (.slice (some ⟨sg, 0, none⟩) n sk) := by rw [hsk]; exact mhV_get hsg
   have hRow : Rw wr sg 3 1 n sk (ints (clkL n ((xAt es).m j))) := by rw [hsk]; exact (HR.o.mr j sg hsg).2.on HJ.o.bel
   clear hsg hsk
   have HSo : Hid (∀ W, wr.grownBy W (Value.slice Av ms.length kv).ownBlock -> W.cell? ⟨w.heap.size, 4, none⟩ = some (.slice (some ⟨M.gm, 0, none⟩) n M.km) /\ W.cell? ⟨M.gm, j, none⟩ = some (.slice (some ⟨sg, 0, none⟩) n sk)) := Lh fun W hW => ⟨(HJ.o.src.grown hW (own_nb HJ.o.mo HJ.o.src (by decide))).cell rfl, by
    have h9 := hHd
    exact (h9.gb hW (fun e => by have := (HJ.o.mo.lt _ e.symm).1; have := hHl; omega)).cell hGet⟩
   have HTw : Hid (∀ V : World, Below wr.heap.size wr V -> Calls Tryz.prog 50 #[.slice (some ⟨sg, 0, none⟩) n sk] V (CopyR (clkL n ((xAt es).m j)) n V)) := Lh fun V hV => twin27_any _ _ n _ V (hRow.on hV).sl (by omega)
   clear hHd hHl hGet hRow
   go_upto_region 5 with fail
   clear q4
   refine wp_region_held_drew (S := fun W => W.cell? ⟨w.heap.size, 4, none⟩ = some (.slice (some ⟨M.gm, 0, none⟩) n M.km) /\ W.cell? ⟨M.gm, j, none⟩ = some (.slice (some ⟨sg, 0, none⟩) n sk)) (by kernel_rfl) (HSo.o _ (gb_below (Below.refl _ _).drew _)) (fun hS => ?_)
   refine tkF 0 (v := ?_) ?_ ?_
   rotate_left
   ·(intro W hSw; (try dsimp only at hSw); go_simp; try with_reducible rfl)
   try simp only [Act.put, List.setIfInBounds_toArray, List.set_cons_zero, List.set_cons_succ]
   iterate 5 (refine tkF 2 (v := ?_) ?_ ?_; rotate_left; · (intro W hSw; (try dsimp only at hSw); go_simp; try with_reducible rfl); try simp only [Act.put, List.setIfInBounds_toArray, List.set_cons_zero, List.set_cons_succ])
   obtain ⟨V0, hV9, HV0b⟩ : ∃ Z9, Z9 = wr.drew /\ Hid (Below wr.heap.size wr Z9) := ⟨_, rfl, (Below.refl _ _).drew⟩
   rw [<- hV9]
   clear hV9
   refine rd2 1 7 (fun K1 hK1 => ?gua) (fun K1 hK1 => ?gub)
   case' gua =>
    have s6 : V0.cell? ⟨gt, 4, none⟩ = some (.slice Av ms.length kv) := (HV0b.o.cell (p := ⟨gt, 4, none⟩) HJ.o.blk.lt).trans (HJ.o.blk.cell rfl)
    go_simp
    clear s6
    refine hK1.out _ _ (HSo.o _ (gb_below HV0b.o _)) (fun hS1 => ?_)
    refine rd 7 fun K2 hK2 => ?_
    go_simp
    go_at_call 50
    refine (HTw.o V0 HV0b.o).mono ?_
    rintro e V1 ⟨A2, k2, rfl, hown9, hb9, hk21, hk22⟩
    have HV1b := Lh (HV0b.o.trans (hb9.mono HV0b.o.size))
    obtain ⟨g2, hg2e, hg2, hR9⟩ := Rw.of_own hown9 (by omega)
    subst hg2e
    have hg2w : wr.heap.size <= g2 := Nat.le_trans HV0b.o.size hg2
    have HRw2 := Lh hR9
    clear hR9 hb9 hown9 hg2
    refine hK2.out _ _ (HSo.o _ (gb_below HV1b.o _)) (fun hS2 => ?_)
    refine rd 8 fun K3 hK3 => ?_
    go_simp
    have hbA := HV1b.o.alloc HV1b.o.size (.cells #[.slice (some ⟨g2, 0, none⟩) n k2] 22)
   case' gub =>
    go_simp
    go_at_call 50
    refine (HTw.o V0 HV0b.o).mono ?_
    rintro e V1 ⟨A2, k2, rfl, hown9, hb9, hk21, hk22⟩
    have HV1b := Lh (HV0b.o.trans (hb9.mono HV0b.o.size))
    obtain ⟨g2, hg2e, hg2, hR9⟩ := Rw.of_own hown9 (by omega)
    subst hg2e
    have hg2w : wr.heap.size <= g2 := Nat.le_trans HV0b.o.size hg2
    have HRw2 := Lh hR9
    clear hR9 hb9 hown9 hg2
    refine hK1.out _ _ (HSo.o _ (gb_below HV1b.o _)) (fun hS1 => ?_)
    refine rd2 1 8 (fun K2 hK2 => ?guba) (fun K2 hK2 => ?gubb)
    case' guba =>
     have s6 : V1.cell? ⟨gt, 4, none⟩ = some (.slice Av ms.length kv) := (HV1b.o.cell (p := ⟨gt, 4, none⟩) HJ.o.blk.lt).trans (HJ.o.blk.cell rfl)
     go_simp
     clear s6
     refine hK2.out _ _ (HSo.o _ (gb_below HV1b.o _)) (fun hS2 => ?_)
     refine rd 8 fun K3 hK3 => ?_
     go_simp
     have hbA := HV1b.o.alloc HV1b.o.size (.cells #[.slice (some ⟨g2, 0, none⟩) n k2] 22)
    case' gubb =>
     go_simp
     have hbA := HV1b.o.alloc HV1b.o.size (.cells #[.slice (some ⟨g2, 0, none⟩) n k2] 22)
     refine hK2.out _ _ (HSo.o _ (gb_below hbA _)) (fun hS2 => ?_)
     refine rd 1 fun K3 hK3 => ?_
     have s6 : (V1.alloc (.cells #[.slice (some ⟨g2, 0, none⟩) n k2] 22)).cell? ⟨gt, 4, none⟩ = some (.slice Av ms.length kv) := (hbA.cell (p := ⟨gt, 4, none⟩) HJ.o.blk.lt).trans (HJ.o.blk.cell rfl)
     go_simp
     clear s6
   all_goals (
    refine hK3.out _ _ (HSo.o _ (gb_below hbA _)) (fun hS3 => ?_)
    refine rd1 9 fun K4 hK4 => ?_
    refine step_app _ (by rfl) _ _ 72 (by rfl) w.heap.size 22 i2 (.slice none 0 0) 1 24 Tryz.underlying72 hi2 hi2z hi2s hi2b rfl (by decide) (.slice Av ms.length kv) ms.length (whV n ms) (by rfl) (HJ.o.mo.below hbA) (V1.heap.size + 1) (some ⟨V1.heap.size, 0, none⟩) 1 1 [.slice (some ⟨g2, 0, none⟩) n k2] (by rfl) (((Blk.new V1 22 _).sl rfl).up (by simp)) (one_sl _ _ _) (ms.length + 1) rfl _ rfl _ rfl (by have := HMj.o; simp only [maxLen]; omega) (by have := HMj.o; omega) (by have := HV1b.o.size; have := HJ.o.bel.size; rw [World.size_alloc]; omega) ?_
    intro A9 k9 W9 hown9 hg9 hat9 hk91 hk92
    have hgg := (gb_below hbA (Value.slice Av ms.length kv).ownBlock).trans hg9
    have hG9 := HJ.o.blk.grown hgg (own_nb HJ.o.mo HJ.o.blk (by decide))
    have d0 := hG9.cell (i := 4) rfl
    have df := hG9.frozen 4
    refine hK4.out _ _ (HSo.o _ hgg) (fun hS4 => ?_)
    refine tkF 10 (v := ?_) ?_ ?_
    rotate_left
    ·(intro W hSw; (try dsimp only at hSw); go_simp; try with_reducible rfl)
    try simp only [Act.put, List.setIfInBounds_toArray, List.set_cons_zero, List.set_cons_succ]
    refine rd 11 fun K5 hK5 => ?_
    go_simp
    have hS5 : (W9.setCell ⟨gt, 4, none⟩ (.slice A9 (ms.length + 1) k9)).cell? ⟨w.heap.size, 4, none⟩ = some (.slice (some ⟨M.gm, 0, none⟩) n M.km) /\ (W9.setCell ⟨gt, 4, none⟩ (.slice A9 (ms.length + 1) k9)).cell? ⟨M.gm, j, none⟩ = some (.slice (some ⟨sg, 0, none⟩) n sk) := ⟨(World.cell?_setCell_other _ _ _ _ (by have := HJ.o.gtB; first | (simp; done) | (simp; omega))).trans hS4.1, (World.cell?_setCell_other _ _ _ _ (by have := HHl.o; have := HJ.o.gtB; first | (simp; done) | (simp; omega))).trans hS4.2⟩
    refine hK5.out _ _ hS5 (fun _ => ?_)
    refine wpAnyH_done (by kernel_rfl) ?_ _
    have hRA := HRw2.o.on (W' := V1.alloc (.cells #[.slice (some ⟨g2, 0, none⟩) n k2] 22)) ((Below.refl _ _).alloc (Nat.le_refl _) _)
    have hR3 := hRA.gb hg9 (own_nr (HJ.o.mo.below hbA) hRA (by decide))
    have HN := Lh (HJ.o.mine (q := V1.heap.size + 1) (g := g2) hg2w hgg (by rw [HMj.o]; exact hR3) hown9 (by rw [World.size_alloc] at hat9; exact hat9) (by have := HV1b.o.size; omega) ⟨rfl, rfl⟩)
    clear hRA hR3 hown9 hg9 hat9 hgg hG9 d0 df hS5 hS4 hbA
    go_wp2_with fail
    go_roundg (gk - 1)
    case measure => omega
    case rel => exact ⟨j + 1, _, _, by omega, by rw [List.length_append, HMj.o]; rfl, by go_num, HN⟩)
  ·obtain rfl : j = n := by omega
   go_wp2_with fail
   clear q4
   obtain ⟨wo, rfl⟩ : ∃ wo : World, wo = wr := ⟨_, rfl⟩
   have HMj := Lh hmj
   clear hmj
   go_loopg [5] nw (fun gk i wr => ∃ (j' : Nat) (vd : Value) (ws : List (Nat × Nat)), j' + gk = nw /\ ws.length = j' /\ i = .int .i64 j' /\ Hid (CpI wr w gt h1 M j nw S (xAt es) vm ms vd ws))
   case atStart => exact ⟨0, _, [], by omega, rfl, rfl, HJ⟩
   case round =>
    obtain ⟨j', vd, ws, hj', hmj, rfl, HQ⟩ := hrel
    have q5 := HQ.o.src.cell (i := 5) rfl
    by_cases hlt : j' < nw
    ·have e1 : (j' : Int) < nw := by omega
     have e0 : (0 : Int) <= j' := by omega
     have d1 : decide (j' < nw) = true := by simpa using hlt
     have HWj := Lh hmj
     clear hmj
     obtain ⟨Av, kv, hvv, hkv1, hkv2⟩ := own_form HQ.o.wo
     subst hvv
     obtain ⟨⟨sg, sk⟩, hsg⟩ := at_lt (show j' < M.ws.length by rw [HR.o.wl]; exact hlt)
     have hHd := HR.o.wi.on HQ.o.bel
     have hHl : M.gd < w.heap.size := HR.o.wi.lt
     have HHl := Lh hHl
     have hGet : (whV j M.ws)[j']? = some (.slice (some ⟨sg, 0, none⟩) j sk) := by unfold whV; rw [List.getElem?_map, hsg]; rfl
     have hRow : Rw wr sg 3 1 j sk (ints (clkL j ((xAt es).wd j'))) := (HR.o.wr j' _ hsg).2.on HQ.o.bel
     clear hsg
     have HSo : Hid (∀ W, wr.grownBy W (Value.slice Av ws.length kv).ownBlock -> W.cell? ⟨w.heap.size, 5, none⟩ = some (.slice (some ⟨M.gd, 0, none⟩) nw M.kd) /\ W.cell? ⟨M.gd, j', none⟩ = some (.slice (some ⟨sg, 0, none⟩) j sk)) := Lh fun W hW => ⟨(HQ.o.src.grown hW (own_nb HQ.o.wo HQ.o.src (by decide))).cell rfl, by
      have h9 := hHd
      exact (h9.gb hW (fun e => by have := (HQ.o.wo.lt _ e.symm).1; have := hHl; omega)).cell hGet⟩
     have HTw : Hid (∀ V : World, Below wr.heap.size wr V -> Calls Tryz.prog 50 #[.slice (some ⟨sg, 0, none⟩) j sk] V (CopyR (clkL j ((xAt es).wd j')) j V)) := Lh fun V hV => twin27_any _ _ j _ V (hRow.on hV).sl (by omega)
     clear hHd hHl hGet hRow
     go_upto_region 9 with fail
     clear q5
     refine wp_region_held_drew (S := fun W => W.cell? ⟨w.heap.size, 5, none⟩ = some (.slice (some ⟨M.gd, 0, none⟩) nw M.kd) /\ W.cell? ⟨M.gd, j', none⟩ = some (.slice (some ⟨sg, 0, none⟩) j sk)) (by kernel_rfl) (HSo.o _ (gb_below (Below.refl _ _).drew _)) (fun hS => ?_)
     refine tkF 0 (v := ?_) ?_ ?_
     rotate_left
     ·(intro W hSw; (try dsimp only at hSw); go_simp; try with_reducible rfl)
     try simp only [Act.put, List.setIfInBounds_toArray, List.set_cons_zero, List.set_cons_succ]
     iterate 5 (refine tkF 2 (v := ?_) ?_ ?_; rotate_left; · (intro W hSw; (try dsimp only at hSw); go_simp; try with_reducible rfl); try simp only [Act.put, List.setIfInBounds_toArray, List.set_cons_zero, List.set_cons_succ])
     obtain ⟨V0, hV9, HV0b⟩ : ∃ Z9, Z9 = wr.drew /\ Hid (Below wr.heap.size wr Z9) := ⟨_, rfl, (Below.refl _ _).drew⟩
     rw [<- hV9]
     clear hV9
     refine rd2 1 7 (fun K1 hK1 => ?gva) (fun K1 hK1 => ?gvb)
     case' gva =>
      have s6 : V0.cell? ⟨gt, 5, none⟩ = some (.slice Av ws.length kv) := (HV0b.o.cell (p := ⟨gt, 5, none⟩) HQ.o.blk.lt).trans (HQ.o.blk.cell rfl)
      go_simp
      clear s6
      refine hK1.out _ _ (HSo.o _ (gb_below HV0b.o _)) (fun hS1 => ?_)
      refine rd 7 fun K2 hK2 => ?_
      go_simp
      go_at_call 50
      refine (HTw.o V0 HV0b.o).mono ?_
      rintro e V1 ⟨A2, k2, rfl, hown9, hb9, hk21, hk22⟩
      have HV1b := Lh (HV0b.o.trans (hb9.mono HV0b.o.size))
      obtain ⟨g2, hg2e, hg2, hR9⟩ := Rw.of_own hown9 (by omega)
      subst hg2e
      have hg2w : wr.heap.size <= g2 := Nat.le_trans HV0b.o.size hg2
      have HRw2 := Lh hR9
      clear hR9 hb9 hown9 hg2
      refine hK2.out _ _ (HSo.o _ (gb_below HV1b.o _)) (fun hS2 => ?_)
      refine rd 8 fun K3 hK3 => ?_
      go_simp
      have hbA := HV1b.o.alloc HV1b.o.size (.cells #[.slice (some ⟨g2, 0, none⟩) j k2] 22)
     case' gvb =>
      go_simp
      go_at_call 50
      refine (HTw.o V0 HV0b.o).mono ?_
      rintro e V1 ⟨A2, k2, rfl, hown9, hb9, hk21, hk22⟩
      have HV1b := Lh (HV0b.o.trans (hb9.mono HV0b.o.size))
      obtain ⟨g2, hg2e, hg2, hR9⟩ := Rw.of_own hown9 (by omega)
      subst hg2e
      have hg2w : wr.heap.size <= g2 := Nat.le_trans HV0b.o.size hg2
      have HRw2 := Lh hR9
      clear hR9 hb9 hown9 hg2
      refine hK1.out _ _ (HSo.o _ (gb_below HV1b.o _)) (fun hS1 => ?_)
      refine rd2 1 8 (fun K2 hK2 => ?gvba) (fun K2 hK2 => ?gvbb)
      case' gvba =>
       have s6 : V1.cell? ⟨gt, 5, none⟩ = some (.slice Av ws.length kv) := (HV1b.o.cell (p := ⟨gt, 5, none⟩) HQ.o.blk.lt).trans (HQ.o.blk.cell rfl)
       go_simp
       clear s6
       refine hK2.out _ _ (HSo.o _ (gb_below HV1b.o _)) (fun hS2 => ?_)
       refine rd 8 fun K3 hK3 => ?_
       go_simp
       have hbA := HV1b.o.alloc HV1b.o.size (.cells #[.slice (some ⟨g2, 0, none⟩) j k2] 22)
      case' gvbb =>
       go_simp
       have hbA := HV1b.o.alloc HV1b.o.size (.cells #[.slice (some ⟨g2, 0, none⟩) j k2] 22)
       refine hK2.out _ _ (HSo.o _ (gb_below hbA _)) (fun hS2 => ?_)
       refine rd 1 fun K3 hK3 => ?_
       have s6 : (V1.alloc (.cells #[.slice (some ⟨g2, 0, none⟩) j k2] 22)).cell? ⟨gt, 5, none⟩ = some (.slice Av ws.length kv) := (hbA.cell (p := ⟨gt, 5, none⟩) HQ.o.blk.lt).trans (HQ.o.blk.cell rfl)
       go_simp
       clear s6
     all_goals (
      refine hK3.out _ _ (HSo.o _ (gb_below hbA _)) (fun hS3 => ?_)
      refine rd1 9 fun K4 hK4 => ?_
      refine step_app _ (by rfl) _ _ 72 (by rfl) w.heap.size 22 i2 (.slice none 0 0) 1 24 Tryz.underlying72 hi2 hi2z hi2s hi2b rfl (by decide) (.slice Av ws.length kv) ws.length (whV j ws) (by rfl) (HQ.o.wo.below hbA) (V1.heap.size + 1) (some ⟨V1.heap.size, 0, none⟩) 1 1 [.slice (some ⟨g2, 0, none⟩) j k2] (by rfl) (((Blk.new V1 22 _).sl rfl).up (by simp)) (one_sl _ _ _) (ws.length + 1) rfl _ rfl _ rfl (by have := HWj.o; simp only [maxLen]; omega) (by have := HWj.o; omega) (by have := HV1b.o.size; have := HQ.o.bel.size; rw [World.size_alloc]; omega) ?_
      intro A9 k9 W9 hown9 hg9 hat9 hk91 hk92
      have hgg := (gb_below hbA (Value.slice Av ws.length kv).ownBlock).trans hg9
      have hG9 := HQ.o.blk.grown hgg (own_nb HQ.o.wo HQ.o.blk (by decide))
      have d0 := hG9.cell (i := 5) rfl
      have df := hG9.frozen 5
      refine hK4.out _ _ (HSo.o _ hgg) (fun hS4 => ?_)
      refine tkF 10 (v := ?_) ?_ ?_
      rotate_left
      ·(intro W hSw; (try dsimp only at hSw); go_simp; try with_reducible rfl)
      try simp only [Act.put, List.setIfInBounds_toArray, List.set_cons_zero, List.set_cons_succ]
      refine rd 11 fun K5 hK5 => ?_
      go_simp
      have hS5 : (W9.setCell ⟨gt, 5, none⟩ (.slice A9 (ws.length + 1) k9)).cell? ⟨w.heap.size, 5, none⟩ = some (.slice (some ⟨M.gd, 0, none⟩) nw M.kd) /\ (W9.setCell ⟨gt, 5, none⟩ (.slice A9 (ws.length + 1) k9)).cell? ⟨M.gd, j', none⟩ = some (.slice (some ⟨sg, 0, none⟩) j sk) := ⟨(World.cell?_setCell_other _ _ _ _ (by have := HQ.o.gtB; first | (simp; done) | (simp; omega))).trans hS4.1, (World.cell?_setCell_other _ _ _ _ (by have := HHl.o; have := HQ.o.gtB; first | (simp; done) | (simp; omega))).trans hS4.2⟩
      refine hK5.out _ _ hS5 (fun _ => ?_)
      refine wpAnyH_done (by kernel_rfl) ?_ _
      have hRA := HRw2.o.on (W' := V1.alloc (.cells #[.slice (some ⟨g2, 0, none⟩) j k2] 22)) ((Below.refl _ _).alloc (Nat.le_refl _) _)
      have hR3 := hRA.gb hg9 (own_nr (HQ.o.wo.below hbA) hRA (by decide))
      have HN := Lh (HQ.o.word (q := V1.heap.size + 1) (g := g2) hg2w hgg (by rw [HWj.o]; exact hR3) hown9 (by rw [World.size_alloc] at hat9; exact hat9) (by have := HV1b.o.size; omega))
      clear hRA hR3 hown9 hg9 hat9 hgg hG9 d0 df hS5 hS4 hbA
      go_wp2_with fail
      go_roundg (gk - 1)
      case measure => omega
      case rel => exact ⟨j' + 1, _, _, by omega, by rw [List.length_append, HWj.o]; rfl, by go_num, HN⟩)
    ·obtain rfl : j' = nw := by omega
     have q6 : wr.cell? ⟨w.heap.size, 6, none⟩ = some (.slice vA es.length vk) := by rw [<- HvE.o]; exact HQ.o.src.cell rfl
     have t6 := HQ.o.blk.cell (i := 6) rfl
     have HWl := Lh hmj
     have HSl : Hid (Sl wr wr.heap.size 5 vA es.length (evcV j es M.cs)) := by
      have h9 := (HR.o.on HQ.o.bel).ev
      rw [HvE.o] at h9
      exact Lh (Sl.of_own h9)
     clear hmj
     go_upto_region 11 with (at_builtin; go_must (refine wpList_app _ rfl _ _ 78 rfl w.heap.size 147 ie (.agg #[.int .i64 0, .int .i64 0, .int .i64 0, .bool false, .slice none 0 0]) 5 56 Tryz.underlying78 hie hiez hies hieb rfl (by decide) (.slice none 0 0) 0 [] rfl (World.ownsRow_nil _ _ _ _) _ vA es.length vk (evcV j es M.cs) rfl HSl.o (evc_all _ _ _) es.length (by omega) (evcV j es M.cs) (List.nil_append _) none rfl (by simp only [maxLen]; omega) (by omega) HQ.o.bel.size ?_; intro A9 k9 v9 hown hg hat hk7 hk8; have hB9 := HQ.o.blk.grown hg (by simp); have d1 : v9.cell? ⟨gt, 6, none⟩ = some (.slice none 0 0) := hB9.cell rfl; have df := hB9.frozen 6))
     have hgtB := HQ.o.gtB
     obtain ⟨W9, hW9, HB9, HE9, HK9, HRs, HBl⟩ : ∃ Z9, Z9 = v9.setCell ⟨gt, 6, none⟩ (.slice A9 es.length k9) /\ Hid (Blk Z9 gt 80 (stL h1 j j' ++ [vm, vd, .slice A9 es.length k9])) /\ Hid (Z9.ownsRow w.heap.size 147 5 (.slice A9 es.length k9) es.length (evcV j es M.cs)) /\ Hid (∀ g, g < wr.heap.size -> g ≠ gt -> Z9.heap[g]? = wr.heap[g]?) /\ Hid (Blk Z9 (w.heap.size + 1) 80 [.slice none 0 0, .slice none 0 0, .slice none 0 0, .slice none 0 0, .slice none 0 0, .slice none 0 0, .slice none 0 0]) /\ Hid (Below w.heap.size w Z9) :=
      ⟨_, rfl, Lh (hB9.set_ 6 _), Lh (own_far hown hB9 (by decide)), Lh (fun g hg8 hne => (Below.heap_setCell v9 ⟨gt, 6, none⟩ _ g hne).trans (hg.block g hg8 (by simp))), Lh ((HQ.o.res.grown hg (by simp)).far (by dsimp only; omega) _), Lh ((gbn HQ.o.bel hg HQ.o.bel.size).setCell (by dsimp only; omega) _)⟩
     rw [<- hW9]
     clear hW9 d1 df hown hg hat hB9 q5 q6 t6 HSl
     have hT := HB9.o
     obtain ⟨A1, k1, e1, _, _⟩ := own_form HQ.o.mo
     obtain ⟨A2, k2, e2, _, _⟩ := own_form HQ.o.wo
     have hwl := HWl.o
     subst e1 e2
     go_upto_region 11 with fail
     refine wp_region_lit ?_
     refine wpList_load_row rfl _ _ rfl gt rfl 80 _ (0, 0) _ hT Tryz.underlying80 rfl size_st7 ?_
     refine wpList_store_row rfl _ _ _ rfl (w.heap.size + 1) _ rfl rfl _ _ HRs.o size_st7 rfl (st7_one _ _ _ _ _ _ _ _ _ _ _ _ _ _ _ _ _ _ _ _ _) ?_
     have HRr := Lh (setRow_heap W9 (w.heap.size + 1) _ (List.toArray (stL h1 j j' ++ [Value.slice A1 ms.length k1, Value.slice A2 ws.length k2, .slice A9 es.length k9])) _ _ HRs.o)
     have hmj2 := HMj.o
     go_wp2_with fail
     refine bodyPost_ret_by (results_cell_row rfl _ _ (w.heap.size + 1) 80 _ (0, 0) _ rfl HRr.o Tryz.underlying80 rfl size_st7) rfl ?_
     have hbz : Below w.heap.size w (W9.setRow (w.heap.size + 1) (List.toArray (stL h1 j j' ++ [Value.slice A1 ms.length k1, Value.slice A2 ws.length k2, .slice A9 es.length k9]))) := rowB HBl.o (by omega)
     obtain ⟨gm, km, gd, kd, e3, e4, hRn⟩ := HQ.o.end (W' := W9.setRow (w.heap.size + 1) (List.toArray (stL h1 j j' ++ [Value.slice A1 ms.length k1, Value.slice A2 ws.length k2, .slice A9 es.length k9]))) HR.o hmj2 hwl n1 n3 (own_rowC HE9.o HRs.o (by decide)) (fun g h7 h8 h9 => (rowK h9).trans (HK9.o g h7 h8)) hbz
     rw [e3, e4] at hRn hbz ⊢
     exact ⟨_, rfl, hRn, rfl, rfl, hbz⟩
end Go.Proofs.YtgjdgapfnfhklaaGreat
