/-
  reclaimref27.Copy: a state with its clocks in memory of its own (the events' clocks are shared).
-/
import Derived.Test.YtgbopmgeicokoaaCp19
import Derived.Test.YtgbopmgeicokoaaRb27
namespace Go.Proofs.Ytgbopmgeicokoaa
open Go.RowKit
set_option linter.unusedSimpArgs false
set_option linter.unusedVariables false

theorem info_ev5 : (Try.prog.info? 122).map (fun i => (i.zero, i.size, i.bytes)) = some (some (.agg #[.int .i64 0, .int .i64 0, .int .i64 0, .bool false, .slice none 0 0]), 5, 56) := by kernel_rfl
theorem evc_all (n : Nat) (es : List Ev) (cs : List (Nat × Nat)) : ∀ u ∈ evcV n es cs, u.oneCell' = true := by
  intro u hu
  unfold evcV at hu
  obtain ⟨p, _, hp⟩ := List.mem_flatMap.1 hu
  simp at hp
  rcases hp with rfl | rfl | rfl | rfl | rfl <;> rfl
theorem own_rowC {w : World} {B e s n g : Nat} {t : TypeId} {v : Value} {xs cs : List Value} {ds : Array Value} (h : w.ownsRow B e s v n xs) (hB : Blk w g t cs) (hne : e ≠ t) : (w.setRow g ds).ownsRow B e s v n xs := by
  have hn := own_nb h hB hne
  refine ⟨h.1, ?_⟩
  rcases h.2 with h0 | ⟨q, cap, cur, hv, hb, hg, h3⟩
  · exact Or.inl h0
  · refine Or.inr ⟨q, cap, cur, hv, hb, ?_, h3⟩
    rw [rowK (fun he => hn (by rw [hv, he]; rfl))]
    exact hg
def CpR27 (n nw : Nat) (S : LS) (es : List Ev) (M : RM) (w : World) (e : Ending) (w' : World) : Prop := ∃ M', e = .returned (rsV M' n nw) ∧ RSB w' w.heap.size n nw S (xAt es) es M' ∧ M'.cs = M.cs ∧ M'.Z = (fun q => ∃ p ∈ M.cs, p.1 = q) ∧ Below w.heap.size w w'
structure CpI (W w : World) (gt : Nat) (h : SH) (M : RM) (n nw : Nat) (S : LS) (x : TS) (vm : Value) (ms : List (Nat × Nat)) (vd : Value) (ws : List (Nat × Nat)) : Prop where
  bel : Below w.heap.size w W
  gtB : w.heap.size + 1 < gt
  src : Blk W w.heap.size 116 (rsL M n nw)
  res : Blk W (w.heap.size + 1) 116 [.slice none 0 0, .slice none 0 0, .slice none 0 0, .slice none 0 0, .slice none 0 0, .slice none 0 0, .slice none 0 0]
  blk : Blk W gt 116 (stL h n nw ++ [vm, vd, .slice none 0 0])
  st : StAt W h n nw S
  nu : NewS w.heap.size h
  mo : W.ownsRow w.heap.size 30 1 vm ms.length (whV n ms)
  mr : ∀ (i : Nat) (p : Nat × Nat), ms[i]? = some p → w.heap.size ≤ p.1 ∧ Rw W p.1 3 1 n p.2 (ints (clkL n (x.m i)))
  wo : W.ownsRow w.heap.size 30 1 vd ws.length (whV n ws)
  wr : ∀ (a : Nat) (p : Nat × Nat), ws[a]? = some p → (w.heap.size ≤ p.1 ∧ p.1 ∉ (h.gw :: h.gp :: ms.map Prod.fst)) ∧ Rw W p.1 3 1 n p.2 (ints (clkL n (x.wd a)))
  nd : (h.gw :: h.gp :: ms.map Prod.fst).Nodup
  ap : vm.ownBlock = none ∨ vm.ownBlock ≠ vd.ownBlock
section
variable {W w : World} {gt : Nat} {h : SH} {M : RM} {n nw : Nat} {S : LS} {x : TS} {vm vd : Value} {ms ws : List (Nat × Nat)}
theorem CpI.mine {W3 : World} {g k q : Nat} {vm' : Value} (H : CpI W w gt h M n nw S x vm ms vd ws) (hg : W.heap.size ≤ g) (hG : W.grownBy W3 vm.ownBlock) (hr : Rw W3 g 3 1 n k (ints (clkL n (x.m ms.length))))
    (ho : W3.ownsRow w.heap.size 30 1 vm' (ms.length + 1) (whV n ms ++ [.slice (some ⟨g, 0, none⟩) n k])) (hat : vm'.ownBlock = vm.ownBlock ∨ vm'.ownBlock = some q) (hq : W.heap.size ≤ q) (hws : vd = .slice none 0 0 ∧ ws = []) :
    CpI (W3.setCell ⟨gt, 4, none⟩ vm') w gt h M n nw S x vm' (ms ++ [(g, k)]) vd ws := by
  obtain ⟨rfl, rfl⟩ := hws
  have e1 := own_nb H.mo H.blk (by decide)
  have hB3 := H.blk.grown hG e1
  have hfar : ∀ {q : Nat} {t : TypeId} {cs : List Value}, Blk W q t cs → t ≠ 30 → q ≠ gt → Blk (W3.setCell ⟨gt, 4, none⟩ vm') q t cs := fun hb hne hn => (hb.grown hG (own_nb H.mo hb (fun e => hne e.symm))).far hn _
  have hrw : ∀ {q sz m k : Nat} {t : TypeId} {xs : List Value}, Rw W q t sz m k xs → 30 ≠ t → t ≠ 116 → Rw (W3.setCell ⟨gt, 4, none⟩ vm') q t sz m k xs := fun hr h1 h2 => (hr.gb hG (own_nr H.mo hr h1)).far (hr.nb H.blk h2) _
  have hgB := H.bel.size
  have h0 : ∀ p ∈ (h.gw :: h.gp :: ms.map Prod.fst), p < W.heap.size := by
    intro p hp
    simp only [List.mem_cons] at hp
    rcases hp with rfl | rfl | hp
    · exact H.st.w.lt
    · exact H.st.p.lt
    · obtain ⟨i, hi, he⟩ := List.mem_iff_getElem.1 hp
      rw [List.length_map] at hi
      rw [List.getElem_map] at he
      rw [← he]
      exact (H.mr i _ (List.getElem?_eq_getElem hi)).2.lt
  exact {
    bel := (H.bel.grown hG H.bel.size (fun q hq => (H.mo.lt q hq).1)).setCell (by have := H.gtB; dsimp only; omega) _
    gtB := H.gtB
    src := hfar H.src (by decide) (by have := H.gtB; omega)
    res := hfar H.res (by decide) (by have := H.gtB; omega)
    blk := hB3.set_ 4 vm'
    st := ⟨hrw H.st.w (by decide) (by decide), hrw H.st.r (by decide) (by decide), hrw H.st.p (by decide) (by decide), hrw H.st.b (by decide) (by decide), H.st.ne⟩
    nu := H.nu
    mo := by
      have h1 : (whV n (ms ++ [(g, k)])) = whV n ms ++ [.slice (some ⟨g, 0, none⟩) n k] := by simp [whV]
      rw [h1, List.length_append]
      exact own_far ho hB3 (by decide)
    mr := fun i p hp => by
      by_cases hi : i < ms.length
      · rw [List.getElem?_append_left hi] at hp
        exact ⟨(H.mr i p hp).1, hrw (H.mr i p hp).2 (by decide) (by decide)⟩
      · have hi2 : i = ms.length := by
          have := (List.getElem?_eq_some_iff.1 hp).1
          simp at this
          omega
        subst hi2
        rw [List.getElem?_append_right (Nat.le_refl _), Nat.sub_self] at hp
        simp at hp
        subst hp
        exact ⟨by dsimp only; omega, hr.far (hr.nb hB3 (by decide)) _⟩
    wo := World.ownsRow_nil _ _ _ _
    wr := fun a p hp => by simp at hp
    nd := by
      have h1 : (h.gw :: h.gp :: (ms ++ [(g, k)]).map Prod.fst) = (h.gw :: h.gp :: ms.map Prod.fst) ++ [g] := by simp
      rw [h1, List.nodup_append]
      refine ⟨H.nd, by simp, ?_⟩
      intro a ha b hb
      simp at hb
      subst hb
      have := h0 a ha
      omega
    ap := by
      cases hv : vm'.ownBlock with
      | none => exact Or.inl rfl
      | some r => exact Or.inr (by show some r ≠ none; simp) }
theorem CpI.word {W3 : World} {g k q : Nat} {vd' : Value} (H : CpI W w gt h M n nw S x vm ms vd ws) (hg : W.heap.size ≤ g) (hG : W.grownBy W3 vd.ownBlock) (hr : Rw W3 g 3 1 n k (ints (clkL n (x.wd ws.length))))
    (ho : W3.ownsRow w.heap.size 30 1 vd' (ws.length + 1) (whV n ws ++ [.slice (some ⟨g, 0, none⟩) n k])) (hat : vd'.ownBlock = vd.ownBlock ∨ vd'.ownBlock = some q) (hq : W.heap.size ≤ q) :
    CpI (W3.setCell ⟨gt, 5, none⟩ vd') w gt h M n nw S x vm ms vd' (ws ++ [(g, k)]) := by
  have e1 := own_nb H.wo H.blk (by decide)
  have hB3 := H.blk.grown hG e1
  have hfar : ∀ {q : Nat} {t : TypeId} {cs : List Value}, Blk W q t cs → t ≠ 30 → q ≠ gt → Blk (W3.setCell ⟨gt, 5, none⟩ vd') q t cs := fun hb hne hn => (hb.grown hG (own_nb H.wo hb (fun e => hne e.symm))).far hn _
  have hrw : ∀ {q sz m k : Nat} {t : TypeId} {xs : List Value}, Rw W q t sz m k xs → 30 ≠ t → t ≠ 116 → Rw (W3.setCell ⟨gt, 5, none⟩ vd') q t sz m k xs := fun hr h1 h2 => (hr.gb hG (own_nr H.wo hr h1)).far (hr.nb H.blk h2) _
  have hgB := H.bel.size
  have h0 : ∀ p ∈ (h.gw :: h.gp :: ms.map Prod.fst), p < W.heap.size := by
    intro p hp
    simp only [List.mem_cons] at hp
    rcases hp with rfl | rfl | hp
    · exact H.st.w.lt
    · exact H.st.p.lt
    · obtain ⟨i, hi, he⟩ := List.mem_iff_getElem.1 hp
      rw [List.length_map] at hi
      rw [List.getElem_map] at he
      rw [← he]
      exact (H.mr i _ (List.getElem?_eq_getElem hi)).2.lt
  exact {
    bel := (H.bel.grown hG H.bel.size (fun q hq => (H.wo.lt q hq).1)).setCell (by have := H.gtB; dsimp only; omega) _
    gtB := H.gtB
    src := hfar H.src (by decide) (by have := H.gtB; omega)
    res := hfar H.res (by decide) (by have := H.gtB; omega)
    blk := hB3.set_ 5 vd'
    st := ⟨hrw H.st.w (by decide) (by decide), hrw H.st.r (by decide) (by decide), hrw H.st.p (by decide) (by decide), hrw H.st.b (by decide) (by decide), H.st.ne⟩
    nu := H.nu
    mo := own_far (H.mo.kept hG H.ap) hB3 (by decide)
    mr := fun i p hp => ⟨(H.mr i p hp).1, hrw (H.mr i p hp).2 (by decide) (by decide)⟩
    wo := by
      have h1 : (whV n (ws ++ [(g, k)])) = whV n ws ++ [.slice (some ⟨g, 0, none⟩) n k] := by simp [whV]
      rw [h1, List.length_append]
      exact own_far ho hB3 (by decide)
    wr := fun i p hp => by
      by_cases hi : i < ws.length
      · rw [List.getElem?_append_left hi] at hp
        exact ⟨(H.wr i p hp).1, hrw (H.wr i p hp).2 (by decide) (by decide)⟩
      · have hi2 : i = ws.length := by
          have := (List.getElem?_eq_some_iff.1 hp).1
          simp at this
          omega
        subst hi2
        rw [List.getElem?_append_right (Nat.le_refl _), Nat.sub_self] at hp
        simp at hp
        subst hp
        exact ⟨⟨by dsimp only; omega, fun hm => by have := h0 _ hm; dsimp only at this; omega⟩, hr.far (hr.nb hB3 (by decide)) _⟩
    nd := H.nd
    ap := by
      cases hv : vm.ownBlock with
      | none => exact Or.inl rfl
      | some r =>
        refine Or.inr ?_
        rcases hat with h1 | h1
        · rw [h1, ← hv]
          rcases H.ap with h2 | h2
          · rw [hv] at h2; cases h2
          · exact h2
        · rw [h1]
          have := (H.mo.lt r hv).2
          intro e
          injection e with e
          omega }
/-- the rows' headers are those of a state whose threads' rows have any room -/
theorem whV_mh (n : Nat) (l : List (Nat × Nat)) : whV n l = mhV n (fun i => (l.getD i (0, 0)).2) (l.map Prod.fst) := by
  unfold whV mhV
  apply List.ext_getElem?
  intro i
  rw [List.getElem?_map, List.getElem?_map, List.getElem?_zipIdx, List.getElem?_map]
  cases hl : l[i]? with
  | none => simp
  | some p => simp [sl1, List.getD_eq_getElem?_getD, hl]
theorem CpI.end {W' : World} {B : Nat} {es : List Ev} {vE : Value} (H : CpI W w gt h M n nw S (xAt es) vm ms vd ws) (hM : RSB w B n nw S (xAt es) es M) (hm : ms.length = n) (hw : ws.length = nw) (n1 : 1 ≤ n) (n3 : 1 ≤ nw)
    (hE : W'.ownsRow w.heap.size 122 5 vE es.length (evcV n es M.cs)) (hk : ∀ g, g < W.heap.size → g ≠ gt → g ≠ w.heap.size + 1 → W'.heap[g]? = W.heap[g]?) (hb : Below w.heap.size w W') :
    ∃ gm km gd kd, vm = .slice (some ⟨gm, 0, none⟩) n km ∧ vd = .slice (some ⟨gd, 0, none⟩) nw kd ∧ RSB W' w.heap.size n nw S (xAt es) es ⟨h, gm, km, ms.map Prod.fst, gd, kd, ws, vE, M.cs, fun i => (ms.getD i (0, 0)).2, fun q => ∃ p ∈ M.cs, p.1 = q⟩ := by
  have hmo := H.mo
  have hwo := H.wo
  rw [hm] at hmo
  rw [hw] at hwo
  obtain ⟨A1, k1, e1, _, _⟩ := own_form hmo
  obtain ⟨A2, k2, e2, _, _⟩ := own_form hwo
  rw [e1] at hmo
  rw [e2] at hwo
  obtain ⟨gm, f1, b1, r1⟩ := Rw.of_own hmo (by omega)
  obtain ⟨gd, f2, b2, r2⟩ := Rw.of_own hwo (by omega)
  subst f1 f2
  have hrw : ∀ {q sz m k : Nat} {t : TypeId} {xs : List Value}, Rw W q t sz m k xs → t ≠ 116 → Rw W' q t sz m k xs := fun hr h2 => hr.kept (hk _ hr.lt (fun e => hr.nb H.blk h2 e) (fun e => hr.nb H.res h2 e))
  have hlow : ∀ p ∈ (h.gw :: h.gp :: ms.map Prod.fst), w.heap.size ≤ p := by
    intro p hp
    simp only [List.mem_cons] at hp
    rcases hp with rfl | rfl | hp
    · exact H.nu.1
    · exact H.nu.2.2.1
    · obtain ⟨i, hi, he⟩ := List.mem_iff_getElem.1 hp
      rw [List.length_map] at hi
      rw [List.getElem_map] at he
      rw [← he]
      exact (H.mr i _ (List.getElem?_eq_getElem hi)).1
  refine ⟨gm, k1, gd, k2, e1, e2, {
    st := ⟨hrw H.st.w (by decide), hrw H.st.r (by decide), hrw H.st.p (by decide), hrw H.st.b (by decide), H.st.ne⟩
    nu := H.nu
    gmB := b1
    gdB := b2
    mi := by rw [← whV_mh]; exact hrw r1 (by decide)
    mr := fun i g hg => by
      rw [List.getElem?_map] at hg
      cases hp : ms[i]? with
      | none => rw [hp] at hg; cases hg
      | some p =>
        rw [hp] at hg
        injection hg with hg
        subst hg
        have h9 := H.mr i p hp
        have hc : (ms.getD i (0, 0)).2 = p.2 := by rw [List.getD_eq_getElem?_getD, hp]; rfl
        refine ⟨h9.1, ?_⟩
        dsimp only
        rw [hc]
        exact hrw h9.2 (by decide)
    wi := hrw r2 (by decide)
    wr := fun i p hp => ⟨(H.wr i p hp).1.2, hrw (H.wr i p hp).2 (by decide)⟩
    ev := hE
    cl := hM.cl
    cr := fun i p hp => by
      have h9 := (hM.cr i p hp).2
      have hl := h9.lt
      exact ⟨fun hm9 => by have := hlow _ hm9; omega, h9.on hb⟩
    nd := H.nd
    gg := by
      rcases H.ap with h9 | h9
      · rw [e1] at h9; cases h9
      · intro e
        have e : gm = gd := e
        rw [e1, e2, e] at h9
        exact h9 rfl
    wB := fun i p hp => (H.wr i p hp).1.1
    cB := fun i p hp => Or.inr ⟨p, List.mem_of_getElem? hp, rfl⟩ }⟩
end

set_option maxRecDepth 100000 in
set_option maxHeartbeats 16000000 in
theorem copy27_any (n nw : Nat) (w : World) (B : Nat) (S : LS) (es : List Ev) (M : RM) (hr : RSB w B n nw S (xAt es) es M) (n1 : 1 ≤ n) (n2 : n ≤ 4) (n3 : 1 ≤ nw) (n4 : nw ≤ 6) (hen : es.length ≤ 100000) :
    Calls Try.prog 101 #[rsV M n nw] w (CpR27 n nw S es M w) := by
  obtain ⟨vA, vk, hvE, hvk1, hvk2⟩ := own_form hr.ev
  have HvE := Lib.hid hvE
  unfold rsV
  rw [hvE]
  obtain ⟨w0, hw0⟩ : ∃ w0 : World, w0 = (w.alloc (.cells #[.slice (some ⟨M.h.gw, 0, none⟩) nw M.h.kw, .slice (some ⟨M.h.gr, 0, none⟩) n M.h.kr, .slice (some ⟨M.h.gp, 0, none⟩) n M.h.kp, .slice (some ⟨M.h.gb, 0, none⟩) n M.h.kb, .slice (some ⟨M.gm, 0, none⟩) n M.km, .slice (some ⟨M.gd, 0, none⟩) nw M.kd, .slice vA es.length vk] 116)).alloc (.cells #[.slice none 0 0, .slice none 0 0, .slice none 0 0, .slice none 0 0, .slice none 0 0, .slice none 0 0, .slice none 0 0] 116) := ⟨_, rfl⟩
  have HB0 : Hid (Blk w0 w.heap.size 116 [.slice (some ⟨M.h.gw, 0, none⟩) nw M.h.kw, .slice (some ⟨M.h.gr, 0, none⟩) n M.h.kr, .slice (some ⟨M.h.gp, 0, none⟩) n M.h.kp, .slice (some ⟨M.h.gb, 0, none⟩) n M.h.kb, .slice (some ⟨M.gm, 0, none⟩) n M.km, .slice (some ⟨M.gd, 0, none⟩) nw M.kd, .slice vA es.length vk]) := by rw [hw0]; exact Lib.hid ((Blk.new w 116 [.slice (some ⟨M.h.gw, 0, none⟩) nw M.h.kw, .slice (some ⟨M.h.gr, 0, none⟩) n M.h.kr, .slice (some ⟨M.h.gp, 0, none⟩) n M.h.kp, .slice (some ⟨M.h.gb, 0, none⟩) n M.h.kb, .slice (some ⟨M.gm, 0, none⟩) n M.km, .slice (some ⟨M.gd, 0, none⟩) nw M.kd, .slice vA es.length vk]).alloc _)
  have HZ0 : Hid (Blk w0 (w.heap.size + 1) 116 [.slice none 0 0, .slice none 0 0, .slice none 0 0, .slice none 0 0, .slice none 0 0, .slice none 0 0, .slice none 0 0]) := by
    rw [hw0]
    have h9 := Blk.new (w.alloc (.cells #[.slice (some ⟨M.h.gw, 0, none⟩) nw M.h.kw, .slice (some ⟨M.h.gr, 0, none⟩) n M.h.kr, .slice (some ⟨M.h.gp, 0, none⟩) n M.h.kp, .slice (some ⟨M.h.gb, 0, none⟩) n M.h.kb, .slice (some ⟨M.gm, 0, none⟩) n M.km, .slice (some ⟨M.gd, 0, none⟩) nw M.kd, .slice vA es.length vk] 116)) 116 [.slice none 0 0, .slice none 0 0, .slice none 0 0, .slice none 0 0, .slice none 0 0, .slice none 0 0, .slice none 0 0]
    rw [World.size_alloc] at h9
    exact Lib.hid h9
  have HW0 : Hid (Below w.heap.size w w0) := by rw [hw0]; exact Lib.hid (((Below.refl _ _).alloc (Nat.le_refl _) _).alloc (by simp) _)
  have HR := Lib.hid hr
  have HWe := Lib.hid hw0
  have hz0 : w.heap.size + 1 < w0.heap.size := HZ0.out.lt
  clear hr hw0 hvE
  obtain ⟨i2, hi2, hi2z, hi2s, hi2b⟩ := info_parts info_is
  obtain ⟨ie, hie, hiez, hies, hieb⟩ := info_parts info_ev5
  go_enter Try.func101, Try.ntmps101
  go_upto_region 1 with fail
  rw [← HWe.out]
  clear HWe
  have q0 : w0.cell? ⟨w.heap.size, 0, none⟩ = some (.slice (some ⟨M.h.gw, 0, none⟩) nw M.h.kw) := HB0.out.cell rfl
  have q1 : w0.cell? ⟨w.heap.size, 1, none⟩ = some (.slice (some ⟨M.h.gr, 0, none⟩) n M.h.kr) := HB0.out.cell rfl
  have q2 : w0.cell? ⟨w.heap.size, 2, none⟩ = some (.slice (some ⟨M.h.gp, 0, none⟩) n M.h.kp) := HB0.out.cell rfl
  have q3 : w0.cell? ⟨w.heap.size, 3, none⟩ = some (.slice (some ⟨M.h.gb, 0, none⟩) n M.h.kb) := HB0.out.cell rfl
  go_wp2_with fail
  refine (copy19_any M.h n nw S w0 (HR.out.on HW0.out).st n1 n2 n3 n4).mono ?_
  rintro e w1 ⟨h1, rfl, hnu1, hst1, hb1⟩
  have hx1 : Blk (w1.alloc (.cells #[.slice none 0 0, .slice none 0 0, .slice none 0 0, .slice none 0 0, .slice none 0 0, .slice none 0 0, .slice none 0 0] 116)) w1.heap.size 116 [.slice none 0 0, .slice none 0 0, .slice none 0 0, .slice none 0 0, .slice none 0 0, .slice none 0 0, .slice none 0 0] := Blk.new w1 116 [.slice none 0 0, .slice none 0 0, .slice none 0 0, .slice none 0 0, .slice none 0 0, .slice none 0 0, .slice none 0 0]
  go_upto_region 2 with (refine wpList_store_row rfl _ _ _ rfl w1.heap.size #[.slice (some ⟨h1.gw, 0, none⟩) nw h1.kw, .slice (some ⟨h1.gr, 0, none⟩) n h1.kr, .slice (some ⟨h1.gp, 0, none⟩) n h1.kp, .slice (some ⟨h1.gb, 0, none⟩) n h1.kb, .slice none 0 0, .slice none 0 0, .slice none 0 0] rfl rfl 116 _ hx1 size_st7 rfl (st7_one _ _ _ _ _ _ _ _ _ _ _ _ _ _ _ _ _ _ _ _ _) ?_)
  (try simp only [Act.put])
  go_upto_region 2 with fail
  obtain ⟨gt, hgt⟩ : ∃ gt, gt = w1.heap.size := ⟨_, rfl⟩
  obtain ⟨w2, hw2, HI⟩ : ∃ Z9, Z9 = (w1.alloc (.cells #[.slice none 0 0, .slice none 0 0, .slice none 0 0, .slice none 0 0, .slice none 0 0, .slice none 0 0, .slice none 0 0] 116)).setRow w1.heap.size #[.slice (some ⟨h1.gw, 0, none⟩) nw h1.kw, .slice (some ⟨h1.gr, 0, none⟩) n h1.kr, .slice (some ⟨h1.gp, 0, none⟩) n h1.kp, .slice (some ⟨h1.gb, 0, none⟩) n h1.kb, .slice none 0 0, .slice none 0 0, .slice none 0 0] ∧ Hid (CpI Z9 w gt h1 M n nw S (xAt es) (.slice none 0 0) [] (.slice none 0 0) []) := by
    have hbz := hb1.size
    have hbel : Below w.heap.size w w1 := HW0.out.trans (hb1.mono HW0.out.size)
    have hA : Below w1.heap.size w1 ((w1.alloc (.cells #[.slice none 0 0, .slice none 0 0, .slice none 0 0, .slice none 0 0, .slice none 0 0, .slice none 0 0, .slice none 0 0] 116)).setRow w1.heap.size #[.slice (some ⟨h1.gw, 0, none⟩) nw h1.kw, .slice (some ⟨h1.gr, 0, none⟩) n h1.kr, .slice (some ⟨h1.gp, 0, none⟩) n h1.kp, .slice (some ⟨h1.gb, 0, none⟩) n h1.kb, .slice none 0 0, .slice none 0 0, .slice none 0 0]) := rowB ((Below.refl _ _).alloc (Nat.le_refl _) _) (Nat.le_refl _)
    refine ⟨_, rfl, ?_⟩
    rw [hgt]
    refine Lib.hid {
      bel := hbel.trans (hA.mono hbel.size)
      gtB := by omega
      src := by
        have h9 := (HB0.out.below hb1 HB0.out.lt).below hA (by have := HB0.out.lt; omega)
        show Blk _ w.heap.size 116 (stL M.h n nw ++ [.slice (some ⟨M.gm, 0, none⟩) n M.km, .slice (some ⟨M.gd, 0, none⟩) nw M.kd, M.vE])
        rw [HvE.out]
        exact h9
      res := (HZ0.out.below hb1 HZ0.out.lt).below hA (by have := HZ0.out.lt; omega)
      blk := setRow_heap _ _ _ #[.slice (some ⟨h1.gw, 0, none⟩) nw h1.kw, .slice (some ⟨h1.gr, 0, none⟩) n h1.kr, .slice (some ⟨h1.gp, 0, none⟩) n h1.kp, .slice (some ⟨h1.gb, 0, none⟩) n h1.kb, .slice none 0 0, .slice none 0 0, .slice none 0 0] _ _ hx1
      st := hst1.on hA
      nu := ⟨Nat.le_trans HW0.out.size hnu1.1, Nat.le_trans HW0.out.size hnu1.2.1, Nat.le_trans HW0.out.size hnu1.2.2.1, Nat.le_trans HW0.out.size hnu1.2.2.2⟩
      mo := World.ownsRow_nil _ _ _ _
      mr := fun i g hg => by simp at hg
      wo := World.ownsRow_nil _ _ _ _
      wr := fun i g hg => by simp at hg
      nd := by
        have := hst1.ne.2.1
        simp [this]
      ap := Or.inl rfl }
  rw [← hw2, ← hgt]
  clear hw2 hgt hx1 hnu1 hst1 hb1 q0 q1 q2 q3 HB0 HZ0 HW0 hz0
  go_wp2_with fail
  go_loopg [4] n (fun gk i wr => ∃ (j : Nat) (vm : Value) (ms : List (Nat × Nat)), j + gk = n ∧ ms.length = j ∧ i = .int .i64 j ∧ Hid (CpI wr w gt h1 M n nw S (xAt es) vm ms (.slice none 0 0) []))
  case atStart => exact ⟨0, _, [], by omega, rfl, rfl, HI⟩
  case round =>
    obtain ⟨j, vm, ms, hj, hmj, rfl, HJ⟩ := hrel
    have q4 : wr.cell? ⟨w.heap.size, 4, none⟩ = some (.slice (some ⟨M.gm, 0, none⟩) n M.km) := HJ.out.src.cell rfl
    by_cases hlt : j < n
    · have e1 : (j : Int) < n := by omega
      have e0 : (0 : Int) ≤ j := by omega
      have d1 : decide (j < n) = true := by simpa using hlt
      have HMj := Lib.hid hmj
      clear hmj
      obtain ⟨Av, kv, hvv, hkv1, hkv2⟩ := own_form HJ.out.mo
      subst hvv
      obtain ⟨sg, hsg⟩ := at_lt (show j < M.ms.length by rw [HR.out.ml]; exact hlt)
      obtain ⟨sk, hsk⟩ : ∃ sk, sk = M.kc j := ⟨_, rfl⟩
      have hHd := HR.out.mi.on HJ.out.bel
      have hHl : M.gm < w.heap.size := HR.out.mi.lt
      have HHl := Lib.hid hHl
      have hGet : (mhV n M.kc M.ms)[j]? = some (.slice (some ⟨sg, 0, none⟩) n sk) := by rw [hsk]; exact mhV_get hsg
      have hRow : Rw wr sg 3 1 n sk (ints (clkL n ((xAt es).m j))) := by rw [hsk]; exact (HR.out.mr j sg hsg).2.on HJ.out.bel
      clear hsg hsk
      have HSo : Hid (∀ W, wr.grownBy W (Value.slice Av ms.length kv).ownBlock → W.cell? ⟨w.heap.size, 4, none⟩ = some (.slice (some ⟨M.gm, 0, none⟩) n M.km) ∧ W.cell? ⟨M.gm, j, none⟩ = some (.slice (some ⟨sg, 0, none⟩) n sk)) := Lib.hid fun W hW => ⟨(HJ.out.src.grown hW (own_nb HJ.out.mo HJ.out.src (by decide))).cell rfl, by
        have h9 := hHd
        exact (h9.gb hW (fun e => by have := (HJ.out.mo.lt _ e.symm).1; have := hHl; omega)).cell hGet⟩
      have HTw : Hid (∀ V : World, Below wr.heap.size wr V → Calls Try.prog 65 #[.slice (some ⟨sg, 0, none⟩) n sk] V (CopyR (clkL n ((xAt es).m j)) n V)) := Lib.hid fun V hV => twin27_any _ _ n _ V (hRow.on hV).sl (by omega)
      clear hHd hHl hGet hRow
      go_upto_region 5 with fail
      clear q4
      refine wp_region_held_drew (S := fun W => W.cell? ⟨w.heap.size, 4, none⟩ = some (.slice (some ⟨M.gm, 0, none⟩) n M.km) ∧ W.cell? ⟨M.gm, j, none⟩ = some (.slice (some ⟨sg, 0, none⟩) n sk)) (by kernel_rfl) (HSo.out _ (gb_below (Below.refl _ _).drew _)) (fun hS => ?_)
      refine wpAnyH_take (i := 0) (v := .pointer (some ⟨gt, 4, none⟩)) rfl (by kernel_rfl) (by kernel_rfl) (by kernel_rfl) (fun _ _ _ h => h) (Or.inl ⟨by rfl, ?_⟩) (by assumption) ?_
      · (intro W hSw; (try dsimp only at hSw); obtain ⟨z1, z2⟩ := hSw; go_simp)
      show wpAnyH _ _ _ _ _ _ _ (Act.put _ (some 17) _) _
      simp only [Act.put, List.setIfInBounds_toArray, List.set_cons_zero, List.set_cons_succ]
      refine wpAnyH_take (i := 2) (v := .pointer (some ⟨w.heap.size, 4, none⟩)) rfl (by kernel_rfl) (by kernel_rfl) (by kernel_rfl) (fun _ _ _ h => h) (Or.inl ⟨by rfl, ?_⟩) (by assumption) ?_
      · (intro W hSw; (try dsimp only at hSw); obtain ⟨z1, z2⟩ := hSw; go_simp)
      show wpAnyH _ _ _ _ _ _ _ (Act.put _ (some 19) _) _
      simp only [Act.put, List.setIfInBounds_toArray, List.set_cons_zero, List.set_cons_succ]
      refine wpAnyH_take (i := 3) (v := .slice (some ⟨M.gm, 0, none⟩) n M.km) rfl (by kernel_rfl) (by kernel_rfl) (by kernel_rfl) (fun _ _ _ h => h) (Or.inl ⟨by rfl, ?_⟩) (by assumption) ?_
      · (intro W hSw; (try dsimp only at hSw); obtain ⟨z1, z2⟩ := hSw; go_simp)
      show wpAnyH _ _ _ _ _ _ _ (Act.put _ (some 20) _) _
      simp only [Act.put, List.setIfInBounds_toArray, List.set_cons_zero, List.set_cons_succ]
      refine wpAnyH_take (i := 4) (v := .int .i64 j) rfl (by kernel_rfl) (by kernel_rfl) (by kernel_rfl) (fun _ _ _ h => h) (Or.inl ⟨by rfl, ?_⟩) (by assumption) ?_
      · (intro W hSw; (try dsimp only at hSw); obtain ⟨z1, z2⟩ := hSw; go_simp)
      show wpAnyH _ _ _ _ _ _ _ (Act.put _ (some 21) _) _
      simp only [Act.put, List.setIfInBounds_toArray, List.set_cons_zero, List.set_cons_succ]
      refine wpAnyH_take (i := 5) (v := .pointer (some ⟨M.gm, j, none⟩)) rfl (by kernel_rfl) (by kernel_rfl) (by kernel_rfl) (fun _ _ _ h => h) (Or.inl ⟨by rfl, ?_⟩) (by assumption) ?_
      · (intro W hSw; (try dsimp only at hSw); obtain ⟨z1, z2⟩ := hSw; go_simp)
      show wpAnyH _ _ _ _ _ _ _ (Act.put _ (some 22) _) _
      simp only [Act.put, List.setIfInBounds_toArray, List.set_cons_zero, List.set_cons_succ]
      refine wpAnyH_take (i := 6) (v := .slice (some ⟨sg, 0, none⟩) n sk) rfl (by kernel_rfl) (by kernel_rfl) (by kernel_rfl) (fun _ _ _ h => h) (Or.inl ⟨by rfl, ?_⟩) (by assumption) ?_
      · (intro W hSw; (try dsimp only at hSw); obtain ⟨z1, z2⟩ := hSw; go_simp)
      show wpAnyH _ _ _ _ _ _ _ (Act.put _ (some 23) _) _
      simp only [Act.put, List.setIfInBounds_toArray, List.set_cons_zero, List.set_cons_succ]
      obtain ⟨V0, hV9, HV0b⟩ : ∃ Z9, Z9 = wr.drew ∧ Hid (Below wr.heap.size wr Z9) := ⟨_, rfl, (Below.refl _ _).drew⟩
      rw [← hV9]
      clear hV9
      refine wpAnyH_ready (rs := [1, 7]) (by kernel_rfl) (by simp) (AllReadyH.cons rfl (fun K1 hK1 => ?_) (AllReadyH.cons rfl (fun K1 hK1 => ?_) AllReadyH.nil))
      · rw [if_pos (by rfl)]
        have s6 : V0.cell? ⟨gt, 4, none⟩ = some (.slice Av ms.length kv) := (HV0b.out.cell (p := ⟨gt, 4, none⟩) HJ.out.blk.lt).trans (HJ.out.blk.cell rfl)
        go_simp
        clear s6
        refine hK1.out _ _ (HSo.out _ (gb_below HV0b.out _)) (fun hS1 => ?_)
        refine wpAnyH_ready (rs := [7]) (by kernel_rfl) (by simp) (AllReadyH.cons rfl (fun K2 hK2 => ?_) (AllReadyH.nil))
        rw [if_pos (by rfl)]
        go_simp
        go_at_call 65
        refine (HTw.out V0 HV0b.out).mono ?_
        rintro e V1 ⟨A2, k2, rfl, hown9, hb9, hk21, hk22⟩
        have HV1b := Lib.hid (HV0b.out.trans (hb9.mono HV0b.out.size))
        obtain ⟨g2, hg2e, hg2, hR9⟩ := Rw.of_own hown9 (by omega)
        subst hg2e
        have hg2w : wr.heap.size ≤ g2 := Nat.le_trans HV0b.out.size hg2
        have HRw2 := Lib.hid hR9
        clear hR9 hb9 hown9 hg2
        refine hK2.out _ _ (HSo.out _ (gb_below HV1b.out _)) (fun hS2 => ?_)
        refine wpAnyH_ready (rs := [8]) (by kernel_rfl) (by simp) (AllReadyH.cons rfl (fun K3 hK3 => ?_) (AllReadyH.nil))
        rw [if_pos (by rfl)]
        go_simp
        have hbA := HV1b.out.alloc HV1b.out.size (.cells #[.slice (some ⟨g2, 0, none⟩) n k2] 30)
        refine hK3.out _ _ (HSo.out _ (gb_below hbA _)) (fun hS3 => ?_)
        refine wpAnyH_ready (rs := [9]) (by kernel_rfl) (by simp) (AllReadyH.cons rfl (fun K4 hK4 => ?_) (AllReadyH.nil))
        refine step_app _ (by rfl) _ _ 51 (by rfl) w.heap.size 30 i2 (.slice none 0 0) 1 24 Try.underlying51 hi2 hi2z hi2s hi2b rfl (by decide) (.slice Av ms.length kv) ms.length (whV n ms) (by rfl) (HJ.out.mo.below hbA) (V1.heap.size + 1) (some ⟨V1.heap.size, 0, none⟩) 1 1 [.slice (some ⟨g2, 0, none⟩) n k2] (by rfl) (((Blk.new V1 30 _).sl rfl).up (by simp)) (one_sl _ _ _) (ms.length + 1) rfl _ rfl _ rfl (by have := HMj.out; simp only [maxLen]; omega) (by have := HMj.out; omega) (by have := HV1b.out.size; have := HJ.out.bel.size; rw [World.size_alloc]; omega) ?_
        intro A9 k9 W9 hown9 hg9 hat9 hk91 hk92
        have hgg := (gb_below hbA (Value.slice Av ms.length kv).ownBlock).trans hg9
        have hG9 := HJ.out.blk.grown hgg (own_nb HJ.out.mo HJ.out.blk (by decide))
        have d0 : W9.cell? ⟨gt, 4, none⟩ = some (.slice Av ms.length kv) := hG9.cell rfl
        have df := hG9.frozen 4
        refine hK4.out _ _ (HSo.out _ hgg) (fun hS4 => ?_)
        refine wpAnyH_take (i := 10) (v := .pointer (some ⟨gt, 4, none⟩)) rfl (by kernel_rfl) (by kernel_rfl) (by kernel_rfl) (fun _ _ _ h => h) (Or.inl ⟨by rfl, ?_⟩) (hS4) ?_
        · (intro W hSw; (try dsimp only at hSw); obtain ⟨z1, z2⟩ := hSw; go_simp)
        show wpAnyH _ _ _ _ _ _ _ (Act.put _ (some 27) _) _
        simp only [Act.put, List.setIfInBounds_toArray, List.set_cons_zero, List.set_cons_succ]
        refine wpAnyH_ready (rs := [11]) (by kernel_rfl) (by simp) (AllReadyH.cons rfl (fun K5 hK5 => ?_) (AllReadyH.nil))
        rw [if_pos (by rfl)]
        go_simp
        have hS5 : (W9.setCell ⟨gt, 4, none⟩ (.slice A9 (ms.length + 1) k9)).cell? ⟨w.heap.size, 4, none⟩ = some (.slice (some ⟨M.gm, 0, none⟩) n M.km) ∧ (W9.setCell ⟨gt, 4, none⟩ (.slice A9 (ms.length + 1) k9)).cell? ⟨M.gm, j, none⟩ = some (.slice (some ⟨sg, 0, none⟩) n sk) := ⟨(World.cell?_setCell_other _ _ _ _ (by have := HJ.out.gtB; first | (simp; done) | (simp; omega))).trans hS4.1, (World.cell?_setCell_other _ _ _ _ (by have := HHl.out; have := HJ.out.gtB; first | (simp; done) | (simp; omega))).trans hS4.2⟩
        refine hK5.out _ _ hS5 (fun _ => ?_)
        refine wpAnyH_done (by kernel_rfl) ?_ _
        have hRA := HRw2.out.on (W' := V1.alloc (.cells #[.slice (some ⟨g2, 0, none⟩) n k2] 30)) ((Below.refl _ _).alloc (Nat.le_refl _) _)
        have hR3 := hRA.gb hg9 (own_nr (HJ.out.mo.below hbA) hRA (by decide))
        have HN := Lib.hid (HJ.out.mine (q := V1.heap.size + 1) (g := g2) hg2w hgg (by rw [HMj.out]; exact hR3) hown9 (by rw [World.size_alloc] at hat9; exact hat9) (by have := HV1b.out.size; omega) ⟨rfl, rfl⟩)
        clear hRA hR3 hown9 hg9 hat9 hgg hG9 d0 df hS5 hS4 hbA
        go_wp2_with fail
        go_roundg (gk - 1)
        case measure => omega
        case rel => exact ⟨j + 1, _, _, by omega, by rw [List.length_append, HMj.out]; rfl, by go_num, HN⟩
      · rw [if_pos (by rfl)]
        go_simp
        go_at_call 65
        refine (HTw.out V0 HV0b.out).mono ?_
        rintro e V1 ⟨A2, k2, rfl, hown9, hb9, hk21, hk22⟩
        have HV1b := Lib.hid (HV0b.out.trans (hb9.mono HV0b.out.size))
        obtain ⟨g2, hg2e, hg2, hR9⟩ := Rw.of_own hown9 (by omega)
        subst hg2e
        have hg2w : wr.heap.size ≤ g2 := Nat.le_trans HV0b.out.size hg2
        have HRw2 := Lib.hid hR9
        clear hR9 hb9 hown9 hg2
        refine hK1.out _ _ (HSo.out _ (gb_below HV1b.out _)) (fun hS1 => ?_)
        refine wpAnyH_ready (rs := [1, 8]) (by kernel_rfl) (by simp) (AllReadyH.cons rfl (fun K2 hK2 => ?_) (AllReadyH.cons rfl (fun K2 hK2 => ?_) AllReadyH.nil))
        · rw [if_pos (by rfl)]
          have s6 : V1.cell? ⟨gt, 4, none⟩ = some (.slice Av ms.length kv) := (HV1b.out.cell (p := ⟨gt, 4, none⟩) HJ.out.blk.lt).trans (HJ.out.blk.cell rfl)
          go_simp
          clear s6
          refine hK2.out _ _ (HSo.out _ (gb_below HV1b.out _)) (fun hS2 => ?_)
          refine wpAnyH_ready (rs := [8]) (by kernel_rfl) (by simp) (AllReadyH.cons rfl (fun K3 hK3 => ?_) (AllReadyH.nil))
          rw [if_pos (by rfl)]
          go_simp
          have hbA := HV1b.out.alloc HV1b.out.size (.cells #[.slice (some ⟨g2, 0, none⟩) n k2] 30)
          refine hK3.out _ _ (HSo.out _ (gb_below hbA _)) (fun hS3 => ?_)
          refine wpAnyH_ready (rs := [9]) (by kernel_rfl) (by simp) (AllReadyH.cons rfl (fun K4 hK4 => ?_) (AllReadyH.nil))
          refine step_app _ (by rfl) _ _ 51 (by rfl) w.heap.size 30 i2 (.slice none 0 0) 1 24 Try.underlying51 hi2 hi2z hi2s hi2b rfl (by decide) (.slice Av ms.length kv) ms.length (whV n ms) (by rfl) (HJ.out.mo.below hbA) (V1.heap.size + 1) (some ⟨V1.heap.size, 0, none⟩) 1 1 [.slice (some ⟨g2, 0, none⟩) n k2] (by rfl) (((Blk.new V1 30 _).sl rfl).up (by simp)) (one_sl _ _ _) (ms.length + 1) rfl _ rfl _ rfl (by have := HMj.out; simp only [maxLen]; omega) (by have := HMj.out; omega) (by have := HV1b.out.size; have := HJ.out.bel.size; rw [World.size_alloc]; omega) ?_
          intro A9 k9 W9 hown9 hg9 hat9 hk91 hk92
          have hgg := (gb_below hbA (Value.slice Av ms.length kv).ownBlock).trans hg9
          have hG9 := HJ.out.blk.grown hgg (own_nb HJ.out.mo HJ.out.blk (by decide))
          have d0 : W9.cell? ⟨gt, 4, none⟩ = some (.slice Av ms.length kv) := hG9.cell rfl
          have df := hG9.frozen 4
          refine hK4.out _ _ (HSo.out _ hgg) (fun hS4 => ?_)
          refine wpAnyH_take (i := 10) (v := .pointer (some ⟨gt, 4, none⟩)) rfl (by kernel_rfl) (by kernel_rfl) (by kernel_rfl) (fun _ _ _ h => h) (Or.inl ⟨by rfl, ?_⟩) (hS4) ?_
          · (intro W hSw; (try dsimp only at hSw); obtain ⟨z1, z2⟩ := hSw; go_simp)
          show wpAnyH _ _ _ _ _ _ _ (Act.put _ (some 27) _) _
          simp only [Act.put, List.setIfInBounds_toArray, List.set_cons_zero, List.set_cons_succ]
          refine wpAnyH_ready (rs := [11]) (by kernel_rfl) (by simp) (AllReadyH.cons rfl (fun K5 hK5 => ?_) (AllReadyH.nil))
          rw [if_pos (by rfl)]
          go_simp
          have hS5 : (W9.setCell ⟨gt, 4, none⟩ (.slice A9 (ms.length + 1) k9)).cell? ⟨w.heap.size, 4, none⟩ = some (.slice (some ⟨M.gm, 0, none⟩) n M.km) ∧ (W9.setCell ⟨gt, 4, none⟩ (.slice A9 (ms.length + 1) k9)).cell? ⟨M.gm, j, none⟩ = some (.slice (some ⟨sg, 0, none⟩) n sk) := ⟨(World.cell?_setCell_other _ _ _ _ (by have := HJ.out.gtB; first | (simp; done) | (simp; omega))).trans hS4.1, (World.cell?_setCell_other _ _ _ _ (by have := HHl.out; have := HJ.out.gtB; first | (simp; done) | (simp; omega))).trans hS4.2⟩
          refine hK5.out _ _ hS5 (fun _ => ?_)
          refine wpAnyH_done (by kernel_rfl) ?_ _
          have hRA := HRw2.out.on (W' := V1.alloc (.cells #[.slice (some ⟨g2, 0, none⟩) n k2] 30)) ((Below.refl _ _).alloc (Nat.le_refl _) _)
          have hR3 := hRA.gb hg9 (own_nr (HJ.out.mo.below hbA) hRA (by decide))
          have HN := Lib.hid (HJ.out.mine (q := V1.heap.size + 1) (g := g2) hg2w hgg (by rw [HMj.out]; exact hR3) hown9 (by rw [World.size_alloc] at hat9; exact hat9) (by have := HV1b.out.size; omega) ⟨rfl, rfl⟩)
          clear hRA hR3 hown9 hg9 hat9 hgg hG9 d0 df hS5 hS4 hbA
          go_wp2_with fail
          go_roundg (gk - 1)
          case measure => omega
          case rel => exact ⟨j + 1, _, _, by omega, by rw [List.length_append, HMj.out]; rfl, by go_num, HN⟩
        · rw [if_pos (by rfl)]
          go_simp
          have hbA := HV1b.out.alloc HV1b.out.size (.cells #[.slice (some ⟨g2, 0, none⟩) n k2] 30)
          refine hK2.out _ _ (HSo.out _ (gb_below hbA _)) (fun hS2 => ?_)
          refine wpAnyH_ready (rs := [1]) (by kernel_rfl) (by simp) (AllReadyH.cons rfl (fun K3 hK3 => ?_) (AllReadyH.nil))
          rw [if_pos (by rfl)]
          have s6 : (V1.alloc (.cells #[.slice (some ⟨g2, 0, none⟩) n k2] 30)).cell? ⟨gt, 4, none⟩ = some (.slice Av ms.length kv) := (hbA.cell (p := ⟨gt, 4, none⟩) HJ.out.blk.lt).trans (HJ.out.blk.cell rfl)
          go_simp
          clear s6
          refine hK3.out _ _ (HSo.out _ (gb_below hbA _)) (fun hS3 => ?_)
          refine wpAnyH_ready (rs := [9]) (by kernel_rfl) (by simp) (AllReadyH.cons rfl (fun K4 hK4 => ?_) (AllReadyH.nil))
          refine step_app _ (by rfl) _ _ 51 (by rfl) w.heap.size 30 i2 (.slice none 0 0) 1 24 Try.underlying51 hi2 hi2z hi2s hi2b rfl (by decide) (.slice Av ms.length kv) ms.length (whV n ms) (by rfl) (HJ.out.mo.below hbA) (V1.heap.size + 1) (some ⟨V1.heap.size, 0, none⟩) 1 1 [.slice (some ⟨g2, 0, none⟩) n k2] (by rfl) (((Blk.new V1 30 _).sl rfl).up (by simp)) (one_sl _ _ _) (ms.length + 1) rfl _ rfl _ rfl (by have := HMj.out; simp only [maxLen]; omega) (by have := HMj.out; omega) (by have := HV1b.out.size; have := HJ.out.bel.size; rw [World.size_alloc]; omega) ?_
          intro A9 k9 W9 hown9 hg9 hat9 hk91 hk92
          have hgg := (gb_below hbA (Value.slice Av ms.length kv).ownBlock).trans hg9
          have hG9 := HJ.out.blk.grown hgg (own_nb HJ.out.mo HJ.out.blk (by decide))
          have d0 : W9.cell? ⟨gt, 4, none⟩ = some (.slice Av ms.length kv) := hG9.cell rfl
          have df := hG9.frozen 4
          refine hK4.out _ _ (HSo.out _ hgg) (fun hS4 => ?_)
          refine wpAnyH_take (i := 10) (v := .pointer (some ⟨gt, 4, none⟩)) rfl (by kernel_rfl) (by kernel_rfl) (by kernel_rfl) (fun _ _ _ h => h) (Or.inl ⟨by rfl, ?_⟩) (hS4) ?_
          · (intro W hSw; (try dsimp only at hSw); obtain ⟨z1, z2⟩ := hSw; go_simp)
          show wpAnyH _ _ _ _ _ _ _ (Act.put _ (some 27) _) _
          simp only [Act.put, List.setIfInBounds_toArray, List.set_cons_zero, List.set_cons_succ]
          refine wpAnyH_ready (rs := [11]) (by kernel_rfl) (by simp) (AllReadyH.cons rfl (fun K5 hK5 => ?_) (AllReadyH.nil))
          rw [if_pos (by rfl)]
          go_simp
          have hS5 : (W9.setCell ⟨gt, 4, none⟩ (.slice A9 (ms.length + 1) k9)).cell? ⟨w.heap.size, 4, none⟩ = some (.slice (some ⟨M.gm, 0, none⟩) n M.km) ∧ (W9.setCell ⟨gt, 4, none⟩ (.slice A9 (ms.length + 1) k9)).cell? ⟨M.gm, j, none⟩ = some (.slice (some ⟨sg, 0, none⟩) n sk) := ⟨(World.cell?_setCell_other _ _ _ _ (by have := HJ.out.gtB; first | (simp; done) | (simp; omega))).trans hS4.1, (World.cell?_setCell_other _ _ _ _ (by have := HHl.out; have := HJ.out.gtB; first | (simp; done) | (simp; omega))).trans hS4.2⟩
          refine hK5.out _ _ hS5 (fun _ => ?_)
          refine wpAnyH_done (by kernel_rfl) ?_ _
          have hRA := HRw2.out.on (W' := V1.alloc (.cells #[.slice (some ⟨g2, 0, none⟩) n k2] 30)) ((Below.refl _ _).alloc (Nat.le_refl _) _)
          have hR3 := hRA.gb hg9 (own_nr (HJ.out.mo.below hbA) hRA (by decide))
          have HN := Lib.hid (HJ.out.mine (q := V1.heap.size + 1) (g := g2) hg2w hgg (by rw [HMj.out]; exact hR3) hown9 (by rw [World.size_alloc] at hat9; exact hat9) (by have := HV1b.out.size; omega) ⟨rfl, rfl⟩)
          clear hRA hR3 hown9 hg9 hat9 hgg hG9 d0 df hS5 hS4 hbA
          go_wp2_with fail
          go_roundg (gk - 1)
          case measure => omega
          case rel => exact ⟨j + 1, _, _, by omega, by rw [List.length_append, HMj.out]; rfl, by go_num, HN⟩
    · obtain rfl : j = n := by omega
      go_wp2_with fail
      clear q4
      obtain ⟨wo, rfl⟩ : ∃ wo : World, wo = wr := ⟨_, rfl⟩
      have HMj := Lib.hid hmj
      clear hmj
      go_loopg [5] nw (fun gk i wr => ∃ (j' : Nat) (vd : Value) (ws : List (Nat × Nat)), j' + gk = nw ∧ ws.length = j' ∧ i = .int .i64 j' ∧ Hid (CpI wr w gt h1 M j nw S (xAt es) vm ms vd ws))
      case atStart => exact ⟨0, _, [], by omega, rfl, rfl, HJ⟩
      case round =>
        obtain ⟨j', vd, ws, hj', hmj, rfl, HQ⟩ := hrel
        have q5 : wr.cell? ⟨w.heap.size, 5, none⟩ = some (.slice (some ⟨M.gd, 0, none⟩) nw M.kd) := HQ.out.src.cell rfl
        by_cases hlt : j' < nw
        · have e1 : (j' : Int) < nw := by omega
          have e0 : (0 : Int) ≤ j' := by omega
          have d1 : decide (j' < nw) = true := by simpa using hlt
          have HWj := Lib.hid hmj
          clear hmj
          obtain ⟨Av, kv, hvv, hkv1, hkv2⟩ := own_form HQ.out.wo
          subst hvv
          obtain ⟨⟨sg, sk⟩, hsg⟩ := at_lt (show j' < M.ws.length by rw [HR.out.wl]; exact hlt)
          have hHd := HR.out.wi.on HQ.out.bel
          have hHl : M.gd < w.heap.size := HR.out.wi.lt
          have HHl := Lib.hid hHl
          have hGet : (whV j M.ws)[j']? = some (.slice (some ⟨sg, 0, none⟩) j sk) := by unfold whV; rw [List.getElem?_map, hsg]; rfl
          have hRow : Rw wr sg 3 1 j sk (ints (clkL j ((xAt es).wd j'))) := (HR.out.wr j' _ hsg).2.on HQ.out.bel
          clear hsg
          have HSo : Hid (∀ W, wr.grownBy W (Value.slice Av ws.length kv).ownBlock → W.cell? ⟨w.heap.size, 5, none⟩ = some (.slice (some ⟨M.gd, 0, none⟩) nw M.kd) ∧ W.cell? ⟨M.gd, j', none⟩ = some (.slice (some ⟨sg, 0, none⟩) j sk)) := Lib.hid fun W hW => ⟨(HQ.out.src.grown hW (own_nb HQ.out.wo HQ.out.src (by decide))).cell rfl, by
            have h9 := hHd
            exact (h9.gb hW (fun e => by have := (HQ.out.wo.lt _ e.symm).1; have := hHl; omega)).cell hGet⟩
          have HTw : Hid (∀ V : World, Below wr.heap.size wr V → Calls Try.prog 65 #[.slice (some ⟨sg, 0, none⟩) j sk] V (CopyR (clkL j ((xAt es).wd j')) j V)) := Lib.hid fun V hV => twin27_any _ _ j _ V (hRow.on hV).sl (by omega)
          clear hHd hHl hGet hRow
          go_upto_region 9 with fail
          clear q5
          refine wp_region_held_drew (S := fun W => W.cell? ⟨w.heap.size, 5, none⟩ = some (.slice (some ⟨M.gd, 0, none⟩) nw M.kd) ∧ W.cell? ⟨M.gd, j', none⟩ = some (.slice (some ⟨sg, 0, none⟩) j sk)) (by kernel_rfl) (HSo.out _ (gb_below (Below.refl _ _).drew _)) (fun hS => ?_)
          refine wpAnyH_take (i := 0) (v := .pointer (some ⟨gt, 5, none⟩)) rfl (by kernel_rfl) (by kernel_rfl) (by kernel_rfl) (fun _ _ _ h => h) (Or.inl ⟨by rfl, ?_⟩) (by assumption) ?_
          · (intro W hSw; (try dsimp only at hSw); obtain ⟨z1, z2⟩ := hSw; go_simp)
          show wpAnyH _ _ _ _ _ _ _ (Act.put _ (some 35) _) _
          simp only [Act.put, List.setIfInBounds_toArray, List.set_cons_zero, List.set_cons_succ]
          refine wpAnyH_take (i := 2) (v := .pointer (some ⟨w.heap.size, 5, none⟩)) rfl (by kernel_rfl) (by kernel_rfl) (by kernel_rfl) (fun _ _ _ h => h) (Or.inl ⟨by rfl, ?_⟩) (by assumption) ?_
          · (intro W hSw; (try dsimp only at hSw); obtain ⟨z1, z2⟩ := hSw; go_simp)
          show wpAnyH _ _ _ _ _ _ _ (Act.put _ (some 37) _) _
          simp only [Act.put, List.setIfInBounds_toArray, List.set_cons_zero, List.set_cons_succ]
          refine wpAnyH_take (i := 3) (v := .slice (some ⟨M.gd, 0, none⟩) nw M.kd) rfl (by kernel_rfl) (by kernel_rfl) (by kernel_rfl) (fun _ _ _ h => h) (Or.inl ⟨by rfl, ?_⟩) (by assumption) ?_
          · (intro W hSw; (try dsimp only at hSw); obtain ⟨z1, z2⟩ := hSw; go_simp)
          show wpAnyH _ _ _ _ _ _ _ (Act.put _ (some 38) _) _
          simp only [Act.put, List.setIfInBounds_toArray, List.set_cons_zero, List.set_cons_succ]
          refine wpAnyH_take (i := 4) (v := .int .i64 j') rfl (by kernel_rfl) (by kernel_rfl) (by kernel_rfl) (fun _ _ _ h => h) (Or.inl ⟨by rfl, ?_⟩) (by assumption) ?_
          · (intro W hSw; (try dsimp only at hSw); obtain ⟨z1, z2⟩ := hSw; go_simp)
          show wpAnyH _ _ _ _ _ _ _ (Act.put _ (some 39) _) _
          simp only [Act.put, List.setIfInBounds_toArray, List.set_cons_zero, List.set_cons_succ]
          refine wpAnyH_take (i := 5) (v := .pointer (some ⟨M.gd, j', none⟩)) rfl (by kernel_rfl) (by kernel_rfl) (by kernel_rfl) (fun _ _ _ h => h) (Or.inl ⟨by rfl, ?_⟩) (by assumption) ?_
          · (intro W hSw; (try dsimp only at hSw); obtain ⟨z1, z2⟩ := hSw; go_simp)
          show wpAnyH _ _ _ _ _ _ _ (Act.put _ (some 40) _) _
          simp only [Act.put, List.setIfInBounds_toArray, List.set_cons_zero, List.set_cons_succ]
          refine wpAnyH_take (i := 6) (v := .slice (some ⟨sg, 0, none⟩) j sk) rfl (by kernel_rfl) (by kernel_rfl) (by kernel_rfl) (fun _ _ _ h => h) (Or.inl ⟨by rfl, ?_⟩) (by assumption) ?_
          · (intro W hSw; (try dsimp only at hSw); obtain ⟨z1, z2⟩ := hSw; go_simp)
          show wpAnyH _ _ _ _ _ _ _ (Act.put _ (some 41) _) _
          simp only [Act.put, List.setIfInBounds_toArray, List.set_cons_zero, List.set_cons_succ]
          obtain ⟨V0, hV9, HV0b⟩ : ∃ Z9, Z9 = wr.drew ∧ Hid (Below wr.heap.size wr Z9) := ⟨_, rfl, (Below.refl _ _).drew⟩
          rw [← hV9]
          clear hV9
          refine wpAnyH_ready (rs := [1, 7]) (by kernel_rfl) (by simp) (AllReadyH.cons rfl (fun K1 hK1 => ?_) (AllReadyH.cons rfl (fun K1 hK1 => ?_) AllReadyH.nil))
          · rw [if_pos (by rfl)]
            have s6 : V0.cell? ⟨gt, 5, none⟩ = some (.slice Av ws.length kv) := (HV0b.out.cell (p := ⟨gt, 5, none⟩) HQ.out.blk.lt).trans (HQ.out.blk.cell rfl)
            go_simp
            clear s6
            refine hK1.out _ _ (HSo.out _ (gb_below HV0b.out _)) (fun hS1 => ?_)
            refine wpAnyH_ready (rs := [7]) (by kernel_rfl) (by simp) (AllReadyH.cons rfl (fun K2 hK2 => ?_) (AllReadyH.nil))
            rw [if_pos (by rfl)]
            go_simp
            go_at_call 65
            refine (HTw.out V0 HV0b.out).mono ?_
            rintro e V1 ⟨A2, k2, rfl, hown9, hb9, hk21, hk22⟩
            have HV1b := Lib.hid (HV0b.out.trans (hb9.mono HV0b.out.size))
            obtain ⟨g2, hg2e, hg2, hR9⟩ := Rw.of_own hown9 (by omega)
            subst hg2e
            have hg2w : wr.heap.size ≤ g2 := Nat.le_trans HV0b.out.size hg2
            have HRw2 := Lib.hid hR9
            clear hR9 hb9 hown9 hg2
            refine hK2.out _ _ (HSo.out _ (gb_below HV1b.out _)) (fun hS2 => ?_)
            refine wpAnyH_ready (rs := [8]) (by kernel_rfl) (by simp) (AllReadyH.cons rfl (fun K3 hK3 => ?_) (AllReadyH.nil))
            rw [if_pos (by rfl)]
            go_simp
            have hbA := HV1b.out.alloc HV1b.out.size (.cells #[.slice (some ⟨g2, 0, none⟩) j k2] 30)
            refine hK3.out _ _ (HSo.out _ (gb_below hbA _)) (fun hS3 => ?_)
            refine wpAnyH_ready (rs := [9]) (by kernel_rfl) (by simp) (AllReadyH.cons rfl (fun K4 hK4 => ?_) (AllReadyH.nil))
            refine step_app _ (by rfl) _ _ 51 (by rfl) w.heap.size 30 i2 (.slice none 0 0) 1 24 Try.underlying51 hi2 hi2z hi2s hi2b rfl (by decide) (.slice Av ws.length kv) ws.length (whV j ws) (by rfl) (HQ.out.wo.below hbA) (V1.heap.size + 1) (some ⟨V1.heap.size, 0, none⟩) 1 1 [.slice (some ⟨g2, 0, none⟩) j k2] (by rfl) (((Blk.new V1 30 _).sl rfl).up (by simp)) (one_sl _ _ _) (ws.length + 1) rfl _ rfl _ rfl (by have := HWj.out; simp only [maxLen]; omega) (by have := HWj.out; omega) (by have := HV1b.out.size; have := HQ.out.bel.size; rw [World.size_alloc]; omega) ?_
            intro A9 k9 W9 hown9 hg9 hat9 hk91 hk92
            have hgg := (gb_below hbA (Value.slice Av ws.length kv).ownBlock).trans hg9
            have hG9 := HQ.out.blk.grown hgg (own_nb HQ.out.wo HQ.out.blk (by decide))
            have d0 : W9.cell? ⟨gt, 5, none⟩ = some (.slice Av ws.length kv) := hG9.cell rfl
            have df := hG9.frozen 5
            refine hK4.out _ _ (HSo.out _ hgg) (fun hS4 => ?_)
            refine wpAnyH_take (i := 10) (v := .pointer (some ⟨gt, 5, none⟩)) rfl (by kernel_rfl) (by kernel_rfl) (by kernel_rfl) (fun _ _ _ h => h) (Or.inl ⟨by rfl, ?_⟩) (hS4) ?_
            · (intro W hSw; (try dsimp only at hSw); obtain ⟨z1, z2⟩ := hSw; go_simp)
            show wpAnyH _ _ _ _ _ _ _ (Act.put _ (some 45) _) _
            simp only [Act.put, List.setIfInBounds_toArray, List.set_cons_zero, List.set_cons_succ]
            refine wpAnyH_ready (rs := [11]) (by kernel_rfl) (by simp) (AllReadyH.cons rfl (fun K5 hK5 => ?_) (AllReadyH.nil))
            rw [if_pos (by rfl)]
            go_simp
            have hS5 : (W9.setCell ⟨gt, 5, none⟩ (.slice A9 (ws.length + 1) k9)).cell? ⟨w.heap.size, 5, none⟩ = some (.slice (some ⟨M.gd, 0, none⟩) nw M.kd) ∧ (W9.setCell ⟨gt, 5, none⟩ (.slice A9 (ws.length + 1) k9)).cell? ⟨M.gd, j', none⟩ = some (.slice (some ⟨sg, 0, none⟩) j sk) := ⟨(World.cell?_setCell_other _ _ _ _ (by have := HQ.out.gtB; first | (simp; done) | (simp; omega))).trans hS4.1, (World.cell?_setCell_other _ _ _ _ (by have := HHl.out; have := HQ.out.gtB; first | (simp; done) | (simp; omega))).trans hS4.2⟩
            refine hK5.out _ _ hS5 (fun _ => ?_)
            refine wpAnyH_done (by kernel_rfl) ?_ _
            have hRA := HRw2.out.on (W' := V1.alloc (.cells #[.slice (some ⟨g2, 0, none⟩) j k2] 30)) ((Below.refl _ _).alloc (Nat.le_refl _) _)
            have hR3 := hRA.gb hg9 (own_nr (HQ.out.wo.below hbA) hRA (by decide))
            have HN := Lib.hid (HQ.out.word (q := V1.heap.size + 1) (g := g2) hg2w hgg (by rw [HWj.out]; exact hR3) hown9 (by rw [World.size_alloc] at hat9; exact hat9) (by have := HV1b.out.size; omega))
            clear hRA hR3 hown9 hg9 hat9 hgg hG9 d0 df hS5 hS4 hbA
            go_wp2_with fail
            go_roundg (gk - 1)
            case measure => omega
            case rel => exact ⟨j' + 1, _, _, by omega, by rw [List.length_append, HWj.out]; rfl, by go_num, HN⟩
          · rw [if_pos (by rfl)]
            go_simp
            go_at_call 65
            refine (HTw.out V0 HV0b.out).mono ?_
            rintro e V1 ⟨A2, k2, rfl, hown9, hb9, hk21, hk22⟩
            have HV1b := Lib.hid (HV0b.out.trans (hb9.mono HV0b.out.size))
            obtain ⟨g2, hg2e, hg2, hR9⟩ := Rw.of_own hown9 (by omega)
            subst hg2e
            have hg2w : wr.heap.size ≤ g2 := Nat.le_trans HV0b.out.size hg2
            have HRw2 := Lib.hid hR9
            clear hR9 hb9 hown9 hg2
            refine hK1.out _ _ (HSo.out _ (gb_below HV1b.out _)) (fun hS1 => ?_)
            refine wpAnyH_ready (rs := [1, 8]) (by kernel_rfl) (by simp) (AllReadyH.cons rfl (fun K2 hK2 => ?_) (AllReadyH.cons rfl (fun K2 hK2 => ?_) AllReadyH.nil))
            · rw [if_pos (by rfl)]
              have s6 : V1.cell? ⟨gt, 5, none⟩ = some (.slice Av ws.length kv) := (HV1b.out.cell (p := ⟨gt, 5, none⟩) HQ.out.blk.lt).trans (HQ.out.blk.cell rfl)
              go_simp
              clear s6
              refine hK2.out _ _ (HSo.out _ (gb_below HV1b.out _)) (fun hS2 => ?_)
              refine wpAnyH_ready (rs := [8]) (by kernel_rfl) (by simp) (AllReadyH.cons rfl (fun K3 hK3 => ?_) (AllReadyH.nil))
              rw [if_pos (by rfl)]
              go_simp
              have hbA := HV1b.out.alloc HV1b.out.size (.cells #[.slice (some ⟨g2, 0, none⟩) j k2] 30)
              refine hK3.out _ _ (HSo.out _ (gb_below hbA _)) (fun hS3 => ?_)
              refine wpAnyH_ready (rs := [9]) (by kernel_rfl) (by simp) (AllReadyH.cons rfl (fun K4 hK4 => ?_) (AllReadyH.nil))
              refine step_app _ (by rfl) _ _ 51 (by rfl) w.heap.size 30 i2 (.slice none 0 0) 1 24 Try.underlying51 hi2 hi2z hi2s hi2b rfl (by decide) (.slice Av ws.length kv) ws.length (whV j ws) (by rfl) (HQ.out.wo.below hbA) (V1.heap.size + 1) (some ⟨V1.heap.size, 0, none⟩) 1 1 [.slice (some ⟨g2, 0, none⟩) j k2] (by rfl) (((Blk.new V1 30 _).sl rfl).up (by simp)) (one_sl _ _ _) (ws.length + 1) rfl _ rfl _ rfl (by have := HWj.out; simp only [maxLen]; omega) (by have := HWj.out; omega) (by have := HV1b.out.size; have := HQ.out.bel.size; rw [World.size_alloc]; omega) ?_
              intro A9 k9 W9 hown9 hg9 hat9 hk91 hk92
              have hgg := (gb_below hbA (Value.slice Av ws.length kv).ownBlock).trans hg9
              have hG9 := HQ.out.blk.grown hgg (own_nb HQ.out.wo HQ.out.blk (by decide))
              have d0 : W9.cell? ⟨gt, 5, none⟩ = some (.slice Av ws.length kv) := hG9.cell rfl
              have df := hG9.frozen 5
              refine hK4.out _ _ (HSo.out _ hgg) (fun hS4 => ?_)
              refine wpAnyH_take (i := 10) (v := .pointer (some ⟨gt, 5, none⟩)) rfl (by kernel_rfl) (by kernel_rfl) (by kernel_rfl) (fun _ _ _ h => h) (Or.inl ⟨by rfl, ?_⟩) (hS4) ?_
              · (intro W hSw; (try dsimp only at hSw); obtain ⟨z1, z2⟩ := hSw; go_simp)
              show wpAnyH _ _ _ _ _ _ _ (Act.put _ (some 45) _) _
              simp only [Act.put, List.setIfInBounds_toArray, List.set_cons_zero, List.set_cons_succ]
              refine wpAnyH_ready (rs := [11]) (by kernel_rfl) (by simp) (AllReadyH.cons rfl (fun K5 hK5 => ?_) (AllReadyH.nil))
              rw [if_pos (by rfl)]
              go_simp
              have hS5 : (W9.setCell ⟨gt, 5, none⟩ (.slice A9 (ws.length + 1) k9)).cell? ⟨w.heap.size, 5, none⟩ = some (.slice (some ⟨M.gd, 0, none⟩) nw M.kd) ∧ (W9.setCell ⟨gt, 5, none⟩ (.slice A9 (ws.length + 1) k9)).cell? ⟨M.gd, j', none⟩ = some (.slice (some ⟨sg, 0, none⟩) j sk) := ⟨(World.cell?_setCell_other _ _ _ _ (by have := HQ.out.gtB; first | (simp; done) | (simp; omega))).trans hS4.1, (World.cell?_setCell_other _ _ _ _ (by have := HHl.out; have := HQ.out.gtB; first | (simp; done) | (simp; omega))).trans hS4.2⟩
              refine hK5.out _ _ hS5 (fun _ => ?_)
              refine wpAnyH_done (by kernel_rfl) ?_ _
              have hRA := HRw2.out.on (W' := V1.alloc (.cells #[.slice (some ⟨g2, 0, none⟩) j k2] 30)) ((Below.refl _ _).alloc (Nat.le_refl _) _)
              have hR3 := hRA.gb hg9 (own_nr (HQ.out.wo.below hbA) hRA (by decide))
              have HN := Lib.hid (HQ.out.word (q := V1.heap.size + 1) (g := g2) hg2w hgg (by rw [HWj.out]; exact hR3) hown9 (by rw [World.size_alloc] at hat9; exact hat9) (by have := HV1b.out.size; omega))
              clear hRA hR3 hown9 hg9 hat9 hgg hG9 d0 df hS5 hS4 hbA
              go_wp2_with fail
              go_roundg (gk - 1)
              case measure => omega
              case rel => exact ⟨j' + 1, _, _, by omega, by rw [List.length_append, HWj.out]; rfl, by go_num, HN⟩
            · rw [if_pos (by rfl)]
              go_simp
              have hbA := HV1b.out.alloc HV1b.out.size (.cells #[.slice (some ⟨g2, 0, none⟩) j k2] 30)
              refine hK2.out _ _ (HSo.out _ (gb_below hbA _)) (fun hS2 => ?_)
              refine wpAnyH_ready (rs := [1]) (by kernel_rfl) (by simp) (AllReadyH.cons rfl (fun K3 hK3 => ?_) (AllReadyH.nil))
              rw [if_pos (by rfl)]
              have s6 : (V1.alloc (.cells #[.slice (some ⟨g2, 0, none⟩) j k2] 30)).cell? ⟨gt, 5, none⟩ = some (.slice Av ws.length kv) := (hbA.cell (p := ⟨gt, 5, none⟩) HQ.out.blk.lt).trans (HQ.out.blk.cell rfl)
              go_simp
              clear s6
              refine hK3.out _ _ (HSo.out _ (gb_below hbA _)) (fun hS3 => ?_)
              refine wpAnyH_ready (rs := [9]) (by kernel_rfl) (by simp) (AllReadyH.cons rfl (fun K4 hK4 => ?_) (AllReadyH.nil))
              refine step_app _ (by rfl) _ _ 51 (by rfl) w.heap.size 30 i2 (.slice none 0 0) 1 24 Try.underlying51 hi2 hi2z hi2s hi2b rfl (by decide) (.slice Av ws.length kv) ws.length (whV j ws) (by rfl) (HQ.out.wo.below hbA) (V1.heap.size + 1) (some ⟨V1.heap.size, 0, none⟩) 1 1 [.slice (some ⟨g2, 0, none⟩) j k2] (by rfl) (((Blk.new V1 30 _).sl rfl).up (by simp)) (one_sl _ _ _) (ws.length + 1) rfl _ rfl _ rfl (by have := HWj.out; simp only [maxLen]; omega) (by have := HWj.out; omega) (by have := HV1b.out.size; have := HQ.out.bel.size; rw [World.size_alloc]; omega) ?_
              intro A9 k9 W9 hown9 hg9 hat9 hk91 hk92
              have hgg := (gb_below hbA (Value.slice Av ws.length kv).ownBlock).trans hg9
              have hG9 := HQ.out.blk.grown hgg (own_nb HQ.out.wo HQ.out.blk (by decide))
              have d0 : W9.cell? ⟨gt, 5, none⟩ = some (.slice Av ws.length kv) := hG9.cell rfl
              have df := hG9.frozen 5
              refine hK4.out _ _ (HSo.out _ hgg) (fun hS4 => ?_)
              refine wpAnyH_take (i := 10) (v := .pointer (some ⟨gt, 5, none⟩)) rfl (by kernel_rfl) (by kernel_rfl) (by kernel_rfl) (fun _ _ _ h => h) (Or.inl ⟨by rfl, ?_⟩) (hS4) ?_
              · (intro W hSw; (try dsimp only at hSw); obtain ⟨z1, z2⟩ := hSw; go_simp)
              show wpAnyH _ _ _ _ _ _ _ (Act.put _ (some 45) _) _
              simp only [Act.put, List.setIfInBounds_toArray, List.set_cons_zero, List.set_cons_succ]
              refine wpAnyH_ready (rs := [11]) (by kernel_rfl) (by simp) (AllReadyH.cons rfl (fun K5 hK5 => ?_) (AllReadyH.nil))
              rw [if_pos (by rfl)]
              go_simp
              have hS5 : (W9.setCell ⟨gt, 5, none⟩ (.slice A9 (ws.length + 1) k9)).cell? ⟨w.heap.size, 5, none⟩ = some (.slice (some ⟨M.gd, 0, none⟩) nw M.kd) ∧ (W9.setCell ⟨gt, 5, none⟩ (.slice A9 (ws.length + 1) k9)).cell? ⟨M.gd, j', none⟩ = some (.slice (some ⟨sg, 0, none⟩) j sk) := ⟨(World.cell?_setCell_other _ _ _ _ (by have := HQ.out.gtB; first | (simp; done) | (simp; omega))).trans hS4.1, (World.cell?_setCell_other _ _ _ _ (by have := HHl.out; have := HQ.out.gtB; first | (simp; done) | (simp; omega))).trans hS4.2⟩
              refine hK5.out _ _ hS5 (fun _ => ?_)
              refine wpAnyH_done (by kernel_rfl) ?_ _
              have hRA := HRw2.out.on (W' := V1.alloc (.cells #[.slice (some ⟨g2, 0, none⟩) j k2] 30)) ((Below.refl _ _).alloc (Nat.le_refl _) _)
              have hR3 := hRA.gb hg9 (own_nr (HQ.out.wo.below hbA) hRA (by decide))
              have HN := Lib.hid (HQ.out.word (q := V1.heap.size + 1) (g := g2) hg2w hgg (by rw [HWj.out]; exact hR3) hown9 (by rw [World.size_alloc] at hat9; exact hat9) (by have := HV1b.out.size; omega))
              clear hRA hR3 hown9 hg9 hat9 hgg hG9 d0 df hS5 hS4 hbA
              go_wp2_with fail
              go_roundg (gk - 1)
              case measure => omega
              case rel => exact ⟨j' + 1, _, _, by omega, by rw [List.length_append, HWj.out]; rfl, by go_num, HN⟩
        · obtain rfl : j' = nw := by omega
          have q6 : wr.cell? ⟨w.heap.size, 6, none⟩ = some (.slice vA es.length vk) := by rw [← HvE.out]; exact HQ.out.src.cell rfl
          have t6 : wr.cell? ⟨gt, 6, none⟩ = some (.slice none 0 0) := HQ.out.blk.cell rfl
          have HWl := Lib.hid hmj
          have HSl : Hid (Sl wr wr.heap.size 5 vA es.length (evcV j es M.cs)) := by
            have h9 := (HR.out.on HQ.out.bel).ev
            rw [HvE.out] at h9
            exact Lib.hid (Sl.of_own h9)
          clear hmj
          go_upto_region 11 with (at_builtin; go_must (refine wpList_app _ rfl _ _ 114 rfl w.heap.size 122 ie (.agg #[.int .i64 0, .int .i64 0, .int .i64 0, .bool false, .slice none 0 0]) 5 56 Try.underlying114 hie hiez hies hieb rfl (by decide) (.slice none 0 0) 0 [] rfl (World.ownsRow_nil _ _ _ _) _ vA es.length vk (evcV j es M.cs) rfl HSl.out (evc_all _ _ _) es.length (by omega) (evcV j es M.cs) (List.nil_append _) none rfl (by simp only [maxLen]; omega) (by omega) HQ.out.bel.size ?_; intro A9 k9 v9 hown hg hat hk7 hk8; have hB9 := HQ.out.blk.grown hg (by simp); have d1 : v9.cell? ⟨gt, 6, none⟩ = some (.slice none 0 0) := hB9.cell rfl; have df := hB9.frozen 6))
          have hgtB := HQ.out.gtB
          obtain ⟨W9, hW9, HB9, HE9, HK9, HRs, HBl⟩ : ∃ Z9, Z9 = v9.setCell ⟨gt, 6, none⟩ (.slice A9 es.length k9) ∧ Hid (Blk Z9 gt 116 (stL h1 j j' ++ [vm, vd, .slice A9 es.length k9])) ∧ Hid (Z9.ownsRow w.heap.size 122 5 (.slice A9 es.length k9) es.length (evcV j es M.cs)) ∧ Hid (∀ g, g < wr.heap.size → g ≠ gt → Z9.heap[g]? = wr.heap[g]?) ∧ Hid (Blk Z9 (w.heap.size + 1) 116 [.slice none 0 0, .slice none 0 0, .slice none 0 0, .slice none 0 0, .slice none 0 0, .slice none 0 0, .slice none 0 0]) ∧ Hid (Below w.heap.size w Z9) :=
            ⟨_, rfl, Lib.hid (hB9.set_ 6 _), Lib.hid (own_far hown hB9 (by decide)), Lib.hid (fun g hg8 hne => (Below.heap_setCell v9 ⟨gt, 6, none⟩ _ g hne).trans (hg.block g hg8 (by simp))), Lib.hid ((HQ.out.res.grown hg (by simp)).far (by dsimp only; omega) _), Lib.hid ((gbn HQ.out.bel hg HQ.out.bel.size).setCell (by dsimp only; omega) _)⟩
          rw [← hW9]
          clear hW9 d1 df hown hg hat hB9 q5 q6 t6 HSl
          have hT := HB9.out
          obtain ⟨A1, k1, e1, _, _⟩ := own_form HQ.out.mo
          obtain ⟨A2, k2, e2, _, _⟩ := own_form HQ.out.wo
          have hwl := HWl.out
          subst e1 e2
          go_upto_region 11 with fail
          refine wp_region_lit ?_
          refine wpList_load_row rfl _ _ rfl gt rfl 116 _ (0, 0) _ hT Try.underlying116 rfl size_st7 ?_
          refine wpList_store_row rfl _ _ _ rfl (w.heap.size + 1) _ rfl rfl _ _ HRs.out size_st7 rfl (st7_one _ _ _ _ _ _ _ _ _ _ _ _ _ _ _ _ _ _ _ _ _) ?_
          have HRr := Lib.hid (setRow_heap W9 (w.heap.size + 1) _ (List.toArray (stL h1 j j' ++ [Value.slice A1 ms.length k1, Value.slice A2 ws.length k2, .slice A9 es.length k9])) _ _ HRs.out)
          have hmj2 := HMj.out
          go_wp2_with fail
          refine bodyPost_ret_by (results_cell_row rfl _ _ (w.heap.size + 1) 116 _ (0, 0) _ rfl HRr.out Try.underlying116 rfl size_st7) rfl ?_
          have hbz : Below w.heap.size w (W9.setRow (w.heap.size + 1) (List.toArray (stL h1 j j' ++ [Value.slice A1 ms.length k1, Value.slice A2 ws.length k2, .slice A9 es.length k9]))) := rowB HBl.out (by omega)
          obtain ⟨gm, km, gd, kd, e3, e4, hRn⟩ := HQ.out.end (W' := W9.setRow (w.heap.size + 1) (List.toArray (stL h1 j j' ++ [Value.slice A1 ms.length k1, Value.slice A2 ws.length k2, .slice A9 es.length k9]))) HR.out hmj2 hwl n1 n3 (own_rowC HE9.out HRs.out (by decide)) (fun g h7 h8 h9 => (rowK h9).trans (HK9.out g h7 h8)) hbz
          rw [e3, e4] at hRn hbz ⊢
          exact ⟨_, rfl, hRn, rfl, rfl, hbz⟩
end Go.Proofs.Ytgbopmgeicokoaa
