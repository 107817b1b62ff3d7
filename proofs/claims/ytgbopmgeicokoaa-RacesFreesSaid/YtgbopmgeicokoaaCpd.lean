/-
  tso.copied.
-/
import Derived.Test.YtgbopmgeicokoaaEvt0
import Derived.Test.YtgbopmgeicokoaaWk
import Derived.Deep.RegionHeld3
import Derived.Deep.DeepCutAuto
import Derived.Deep.RegionWith
import Derived.Deep.RegionLaw
import Derived.Great.BuildSlice
namespace Go.Proofs.Ytgbopmgeicokoaa
open Go.RowKit

theorem size_lst : (Try.prog.info? 113).map (·.size) = some 4 := by kernel_rfl
theorem lst_one (a b c d : Option Addr) (n1 k1 n2 k2 n3 k3 n4 k4 : Nat) : (#[.slice a n1 k1, .slice b n2 k2, .slice c n3 k3, .slice d n4 k4] : Array Value).all (·.oneCell') = true := by simp [Value.oneCell']
theorem info_pend : (Try.prog.info? 278).map (fun i => (i.zero, i.size, i.bytes)) = some (some (.slice none 0 0), 1, 24) := by kernel_rfl
theorem rowB {B g : Nat} {a w : World} {cs : Array Value} (h : Below B a w) (hg : B ≤ g) : Below B a (w.setRow g cs) :=
  ⟨h.os, h.tape, h.output, by have := h.size; simpa [World.setRow] using this, fun k hk => (setRow_other w g k cs (by omega)).trans (h.block k hk)⟩
theorem rowK {w : World} {g : Nat} {cs : Array Value} {k : Nat} (hk : k ≠ g) : (w.setRow g cs).heap[k]? = w.heap[k]? := setRow_other w g k cs hk
theorem Below.step9 {B : Nat} {a b c : World} (h : Below B a b) (h2 : Below b.heap.size b c) (hB : B ≤ a.heap.size) : Below B a c := h.trans (h2.mono (Nat.le_trans hB h.size))
def NewS (B : Nat) (h : SH) : Prop := B ≤ h.gw ∧ B ≤ h.gr ∧ B ≤ h.gp ∧ B ≤ h.gb
/-- a state in new memory -/
def CpdR (n nw : Nat) (S : LS) (w : World) (e : Ending) (w' : World) : Prop := ∃ h', e = .returned (stV h' n nw) ∧ NewS w.heap.size h' ∧ StAt w' h' n nw S ∧ Below w.heap.size w w'
/-- a copy under way: the first three rows are there, j buffers -/
structure Cpy (w0 : World) (n nw : Nat) (S : LS) (gt gw kw gr kr gp kp : Nat) (bv : Value) (j : Nat) (W : World) : Prop where
  bel : Below w0.heap.size w0 W
  t : Blk W gt 113 [.slice (some ⟨gw, 0, none⟩) nw kw, .slice (some ⟨gr, 0, none⟩) n kr, .slice (some ⟨gp, 0, none⟩) n kp, bv]
  w : Rw W gw 3 1 nw kw (ints S.ws)
  r : Rw W gr 173 4 n kr (ints S.rs)
  p : Rw W gp 3 1 n kp (natsI S.ps)
  b : W.ownsRow w0.heap.size 278 1 bv j (List.replicate j (.slice none 0 0))
  ne : gw ≠ gr ∧ gw ≠ gp ∧ gr ≠ gp
  ge : w0.heap.size ≤ gt ∧ w0.heap.size ≤ gw ∧ w0.heap.size ≤ gr ∧ w0.heap.size ≤ gp
theorem Cpy.mk' {w0 W : World} {n nw : Nat} {S : LS} {gt gw kw gr kr gp kp : Nat} (hb : Below w0.heap.size w0 W) (hz : Blk W gt 113 [.slice none 0 0, .slice none 0 0, .slice none 0 0, .slice none 0 0])
    (hw : Rw W gw 3 1 nw kw (ints S.ws)) (hr : Rw W gr 173 4 n kr (ints S.rs)) (hp : Rw W gp 3 1 n kp (natsI S.ps)) (ne : gw ≠ gp) (ge : w0.heap.size ≤ gt ∧ w0.heap.size ≤ gw ∧ w0.heap.size ≤ gr ∧ w0.heap.size ≤ gp) :
    Cpy w0 n nw S gt gw kw gr kr gp kp (.slice none 0 0) 0 (W.setRow gt #[.slice (some ⟨gw, 0, none⟩) nw kw, .slice (some ⟨gr, 0, none⟩) n kr, .slice (some ⟨gp, 0, none⟩) n kp, .slice none 0 0]) := by
  have hne : gw ≠ gr := by
    obtain ⟨_, cs, h1, _⟩ := hr
    exact fun e => hw.ne h1 (by decide) e.symm
  have hne2 : gr ≠ gp := by
    obtain ⟨_, cs, h1, _⟩ := hp
    exact fun e => hr.ne h1 (by decide) e.symm
  exact ⟨rowB hb ge.1, setRow_heap W gt _ _ _ _ hz, hw.kept (rowK (Ne.symm (hw.ne hz (by decide)))), hr.kept (rowK (Ne.symm (hr.ne hz (by decide)))), hp.kept (rowK (Ne.symm (hp.ne hz (by decide)))), World.ownsRow_nil _ _ _ _, ⟨hne, ne, hne2⟩, ge⟩
theorem own_nb {w : World} {B e s n g : Nat} {t : TypeId} {v : Value} {xs cs : List Value} (h : w.ownsRow B e s v n xs) (hB : Blk w g t cs) (hne : e ≠ t) : some g ≠ v.ownBlock := by
  intro he
  rcases h.2 with ⟨rfl, _⟩ | ⟨q, cap, cur, rfl, _, hg, _⟩
  · cases he
  · injection he with he
    subst he
    unfold Blk at hB
    rw [hB] at hg
    injection hg with hg
    injection hg with _ hg
    exact hne hg.symm
theorem own_nr {w : World} {B e s n g sz m k : Nat} {t : TypeId} {v : Value} {xs cs : List Value} (h : w.ownsRow B e s v n xs) (hB : Rw w g t sz m k cs) (hne : e ≠ t) : some g ≠ v.ownBlock := by
  obtain ⟨_, c, h1, _⟩ := hB
  exact own_nb h h1 hne
theorem Rw.grown {w w' : World} {g sz m k : Nat} {t : TypeId} {cs : List Value} {row : Option Nat} (h : Rw w g t sz m k cs) (hb : w.grownBy w' row) (hg : some g ≠ row) : Rw w' g t sz m k cs := h.kept (hb.block g h.lt hg)
theorem rep_snoc {α : Type} (j : Nat) (z : α) : List.replicate j z ++ [z] = List.replicate (j + 1) z := List.replicate_succ'.symm
theorem one_nil : ∀ u ∈ [Value.slice none 0 0], u.oneCell' = true := by decide
theorem Cpy.next {w0 W W1 W2 : World} {n nw : Nat} {S : LS} {gt gw kw gr kr gp kp j k : Nat} {A : Option Addr} {bv : Value} (h : Cpy w0 n nw S gt gw kw gr kr gp kp bv j W) (hb : Below W.heap.size W W1) (hg : W1.grownBy W2 bv.ownBlock)
    (ho : W2.ownsRow w0.heap.size 278 1 (.slice A (j + 1) k) (j + 1) (List.replicate (j + 1) (.slice none 0 0))) : Cpy w0 n nw S gt gw kw gr kr gp kp (.slice A (j + 1) k) (j + 1) (W2.setCell ⟨gt, 3, none⟩ (.slice A (j + 1) k)) := by
  have t1 := (h.t.below hb h.t.lt).grown hg (own_nb h.b h.t (by decide))
  have w1 := (h.w.on hb).grown hg (own_nr h.b h.w (by decide))
  have r1 := (h.r.on hb).grown hg (own_nr h.b h.r (by decide))
  have p1 := (h.p.on hb).grown hg (own_nr h.b h.p (by decide))
  refine ⟨(((h.bel.trans (hb.mono h.bel.size)).grown hg (Nat.le_trans h.bel.size hb.size) (fun q hq => (h.b.lt q hq).1))).setCell (p := ⟨gt, 3, none⟩) h.ge.1 _, t1.set_ 3 _, w1.far (Ne.symm (w1.ne t1 (by decide))) _, r1.far (Ne.symm (r1.ne t1 (by decide))) _, p1.far (Ne.symm (p1.ne t1 (by decide))) _, own_far ho t1 (by decide), h.ne, h.ge⟩

set_option maxRecDepth 100000 in
set_option maxHeartbeats 8000000 in
theorem copied_any (h : SH) (n nw : Nat) (S : LS) (w : World) (hs : StAt w h n nw S) (hn1 : 1 ≤ n) (hn4 : n ≤ 4) (hw1 : 1 ≤ nw) (hw6 : nw ≤ 6) :
    Calls Try.prog 139 #[stV h n nw] w (CpdR n nw S w) := by
  obtain ⟨w0, hw0⟩ : ∃ w0 : World, w0 = (w.alloc (.cells #[.slice (some ⟨h.gw, 0, none⟩) nw h.kw, .slice (some ⟨h.gr, 0, none⟩) n h.kr, .slice (some ⟨h.gp, 0, none⟩) n h.kp, .slice (some ⟨h.gb, 0, none⟩) n h.kb] 113)).alloc (.cells #[.slice none 0 0, .slice none 0 0, .slice none 0 0, .slice none 0 0] 113) := ⟨_, rfl⟩
  have HB0 : Hid (Blk w0 w.heap.size 113 (stL h n nw)) := by rw [hw0]; exact (Blk.new w 113 (stL h n nw)).alloc _
  have HZ0 : Hid (Blk w0 (w.heap.size + 1) 113 [.slice none 0 0, .slice none 0 0, .slice none 0 0, .slice none 0 0]) := by
    rw [hw0]
    have h9 := Blk.new (w.alloc (.cells #[.slice (some ⟨h.gw, 0, none⟩) nw h.kw, .slice (some ⟨h.gr, 0, none⟩) n h.kr, .slice (some ⟨h.gp, 0, none⟩) n h.kp, .slice (some ⟨h.gb, 0, none⟩) n h.kb] 113)) 113 [.slice none 0 0, .slice none 0 0, .slice none 0 0, .slice none 0 0]
    rw [World.size_alloc] at h9
    exact h9
  have HW0 : Hid (Below w.heap.size w w0) := by rw [hw0]; exact ((Below.refl _ _).alloc (Nat.le_refl _) _).alloc (by simp) _
  have HS0 := Lib.hid (hs.on HW0.out)
  have HWe := Lib.hid hw0
  have hz0 : w.heap.size + 1 < w0.heap.size := HZ0.out.lt
  clear hs hw0
  go_enter Try.func139, Try.ntmps139
  go_upto_region 1 with fail
  rw [← HWe.out]
  clear HWe
  have HCw : Hid (∀ W, Below w0.heap.size w0 W → Calls Try.prog 121 #[.slice (some ⟨h.gw, 0, none⟩) nw h.kw] W (CloR 3 1 nw (ints S.ws) W)) := fun W hW => cloI_any h.gw 0 nw h.kw _ W (HS0.out.on hW).w.sl (ints_one' _) ⟨by omega, by omega⟩
  have HCr : Hid (∀ W, Below w0.heap.size w0 W → Calls Try.prog 151 #[.slice (some ⟨h.gr, 0, none⟩) n h.kr] W (CloR 173 4 n (ints S.rs) W)) := fun W hW => cloR_any h.gr 0 n h.kr _ W (HS0.out.on hW).r.sl (ints_one' _) ⟨by omega, by omega⟩
  have HCp : Hid (∀ W, Below w0.heap.size w0 W → Calls Try.prog 121 #[.slice (some ⟨h.gp, 0, none⟩) n h.kp] W (CloR 3 1 n (natsI S.ps) W)) := fun W hW => cloI_any h.gp 0 n h.kp _ W (HS0.out.on hW).p.sl (natsI_one' _) ⟨by omega, by omega⟩
  have HSo : Hid (∀ W, Below w0.heap.size w0 W → Below w0.heap.size w0 W ∧ W.cell? ⟨w.heap.size, 0, none⟩ = some (.slice (some ⟨h.gw, 0, none⟩) nw h.kw) ∧ W.cell? ⟨w.heap.size, 1, none⟩ = some (.slice (some ⟨h.gr, 0, none⟩) n h.kr) ∧ W.cell? ⟨w.heap.size, 2, none⟩ = some (.slice (some ⟨h.gp, 0, none⟩) n h.kp)) := fun W hW => ⟨hW, (HB0.out.below hW HB0.out.lt).cell rfl, (HB0.out.below hW HB0.out.lt).cell rfl, (HB0.out.below hW HB0.out.lt).cell rfl⟩
  go_cut [3] (fun s3 wc => ∃ gt, s3 = .pointer (some ⟨gt, 0, none⟩) ∧ Hid (∃ gw kw gr kr gp kp, Cpy w0 n nw S gt gw kw gr kr gp kp (.slice none 0 0) 0 wc))
  case first =>
    refine wp_region_held_drew (S := fun W => Below w0.heap.size w0 W ∧ W.cell? ⟨w.heap.size, 0, none⟩ = some (.slice (some ⟨h.gw, 0, none⟩) nw h.kw) ∧ W.cell? ⟨w.heap.size, 1, none⟩ = some (.slice (some ⟨h.gr, 0, none⟩) n h.kr) ∧ W.cell? ⟨w.heap.size, 2, none⟩ = some (.slice (some ⟨h.gp, 0, none⟩) n h.kp)) (by kernel_rfl) (HSo.out _ (Below.refl _ _).drew) (fun hS => ?_)
    refine wpAnyH_take (i := 0) (v := .pointer (some ⟨w.heap.size, 0, none⟩)) rfl (by kernel_rfl) (by kernel_rfl) (by kernel_rfl) (fun _ _ _ h => h) (Or.inl ⟨by rfl, ?_⟩) (by assumption) ?_
    · (intro W hSw; (try dsimp only at hSw); go_simp)
    show wpAnyH _ _ _ _ _ _ _ (Act.put _ (some 6) _) _
    simp only [Act.put, List.setIfInBounds_toArray, List.set_cons_zero, List.set_cons_succ]
    refine wpAnyH_take (i := 1) (v := .slice (some ⟨h.gw, 0, none⟩) nw h.kw) rfl (by kernel_rfl) (by kernel_rfl) (by kernel_rfl) (fun _ _ _ h => h) (Or.inl ⟨by rfl, ?_⟩) (by assumption) ?_
    · (intro W hSw; (try dsimp only at hSw); go_simp)
    show wpAnyH _ _ _ _ _ _ _ (Act.put _ (some 7) _) _
    simp only [Act.put, List.setIfInBounds_toArray, List.set_cons_zero, List.set_cons_succ]
    refine wpAnyH_take (i := 3) (v := .pointer (some ⟨w.heap.size, 1, none⟩)) rfl (by kernel_rfl) (by kernel_rfl) (by kernel_rfl) (fun _ _ _ h => h) (Or.inl ⟨by rfl, ?_⟩) (by assumption) ?_
    · (intro W hSw; (try dsimp only at hSw); go_simp)
    show wpAnyH _ _ _ _ _ _ _ (Act.put _ (some 9) _) _
    simp only [Act.put, List.setIfInBounds_toArray, List.set_cons_zero, List.set_cons_succ]
    refine wpAnyH_take (i := 4) (v := .slice (some ⟨h.gr, 0, none⟩) n h.kr) rfl (by kernel_rfl) (by kernel_rfl) (by kernel_rfl) (fun _ _ _ h => h) (Or.inl ⟨by rfl, ?_⟩) (by assumption) ?_
    · (intro W hSw; (try dsimp only at hSw); go_simp)
    show wpAnyH _ _ _ _ _ _ _ (Act.put _ (some 10) _) _
    simp only [Act.put, List.setIfInBounds_toArray, List.set_cons_zero, List.set_cons_succ]
    refine wpAnyH_take (i := 6) (v := .pointer (some ⟨w.heap.size, 2, none⟩)) rfl (by kernel_rfl) (by kernel_rfl) (by kernel_rfl) (fun _ _ _ h => h) (Or.inl ⟨by rfl, ?_⟩) (by assumption) ?_
    · (intro W hSw; (try dsimp only at hSw); go_simp)
    show wpAnyH _ _ _ _ _ _ _ (Act.put _ (some 12) _) _
    simp only [Act.put, List.setIfInBounds_toArray, List.set_cons_zero, List.set_cons_succ]
    refine wpAnyH_take (i := 7) (v := .slice (some ⟨h.gp, 0, none⟩) n h.kp) rfl (by kernel_rfl) (by kernel_rfl) (by kernel_rfl) (fun _ _ _ h => h) (Or.inl ⟨by rfl, ?_⟩) (by assumption) ?_
    · (intro W hSw; (try dsimp only at hSw); go_simp)
    show wpAnyH _ _ _ _ _ _ _ (Act.put _ (some 13) _) _
    simp only [Act.put, List.setIfInBounds_toArray, List.set_cons_zero, List.set_cons_succ]
    obtain ⟨V0, hV9, HB0', hb9⟩ : ∃ Z9, Z9 = w0.drew ∧ Hid (Below w0.heap.size w0 Z9) ∧ True := ⟨_, rfl, (Below.refl _ _).drew, trivial⟩
    rw [← hV9]
    clear hV9 hb9
    refine wpAnyH_ready (rs := [2, 10]) (by kernel_rfl) (by simp) (AllReadyH.cons rfl (fun K1 hK1 => ?_) (AllReadyH.cons rfl (fun K1 hK1 => ?_) (AllReadyH.nil)))
    · rw [if_pos (by rfl)]
      go_simp
      go_at_call 121
      refine (HCw.out _ HB0'.out).mono ?_
      rintro e V1 ⟨gw, kw, rfl, hgw0, hR9, hb9⟩
      have HB1 := Lib.hid (Below.step9 HB0'.out hb9 (Nat.le_refl w0.heap.size))
      have HRw1 := Lib.hid hR9
      have hgw : w0.heap.size ≤ gw := Nat.le_trans HB0'.out.size hgw0
      clear hR9 hb9
      refine hK1.out _ _ (HSo.out _ HB1.out) (fun _ => ?_)
      refine wpAnyH_ready (rs := [5, 10]) (by kernel_rfl) (by simp) (AllReadyH.cons rfl (fun K2 hK2 => ?_) (AllReadyH.cons rfl (fun K2 hK2 => ?_) (AllReadyH.nil)))
      · rw [if_pos (by rfl)]
        go_simp
        go_at_call 151
        refine (HCr.out _ HB1.out).mono ?_
        rintro e V2 ⟨gr, kr, rfl, hgr0, hR9, hb9⟩
        have HB2 := Lib.hid (Below.step9 HB1.out hb9 (Nat.le_refl w0.heap.size))
        have HRr2 := Lib.hid hR9
        have hgr : w0.heap.size ≤ gr := Nat.le_trans HB1.out.size hgr0
        have HRw2 := Lib.hid (HRw1.out.on hb9)
        have hlw1 := HRw1.out.lt
        clear hR9 hb9
        refine hK2.out _ _ (HSo.out _ HB2.out) (fun _ => ?_)
        refine wpAnyH_ready (rs := [8, 10]) (by kernel_rfl) (by simp) (AllReadyH.cons rfl (fun K3 hK3 => ?_) (AllReadyH.cons rfl (fun K3 hK3 => ?_) (AllReadyH.nil)))
        · rw [if_pos (by rfl)]
          go_simp
          go_at_call 121
          refine (HCp.out _ HB2.out).mono ?_
          rintro e V3 ⟨gp, kp, rfl, hgp0, hR9, hb9⟩
          have HB3 := Lib.hid (Below.step9 HB2.out hb9 (Nat.le_refl w0.heap.size))
          have HRp3 := Lib.hid hR9
          have hgp : w0.heap.size ≤ gp := Nat.le_trans HB2.out.size hgp0
          have HRw3 := Lib.hid (HRw2.out.on hb9)
          have hlw2 := HRw2.out.lt
          have HRr3 := Lib.hid (HRr2.out.on hb9)
          have hlr2 := HRr2.out.lt
          clear hR9 hb9
          refine hK3.out _ _ (HSo.out _ HB3.out) (fun _ => ?_)
          refine wpAnyH_take (i := 9) (v := .agg #[.slice (some ⟨gw, 0, none⟩) nw kw, .slice (some ⟨gr, 0, none⟩) n kr, .slice (some ⟨gp, 0, none⟩) n kp, .slice none 0 0]) rfl (by kernel_rfl) (by kernel_rfl) (by kernel_rfl) (fun _ _ _ h => h) (Or.inl ⟨by rfl, ?_⟩) (HSo.out _ HB3.out) ?_
          · (intro W hSw; (try dsimp only at hSw); go_simp)
          show wpAnyH _ _ _ _ _ _ _ (Act.put _ (some 15) _) _
          simp only [Act.put, List.setIfInBounds_toArray, List.set_cons_zero, List.set_cons_succ]
          refine wpAnyH_ready (rs := [10]) (by kernel_rfl) (by simp) (AllReadyH.cons rfl (fun K4 hK4 => ?_) (AllReadyH.nil))
          · rw [if_pos (by rfl)]
            go_simp
            refine hK4.out _ _ (HSo.out _ (HB3.out.alloc HB3.out.size _)) (fun _ => ?_)
            obtain ⟨V4, hV9, HZ4, HB4, hb9⟩ : ∃ Z9, Z9 = V3.alloc (.cells #[.slice none 0 0, .slice none 0 0, .slice none 0 0, .slice none 0 0] 113) ∧ Hid (Blk Z9 V3.heap.size 113 [.slice none 0 0, .slice none 0 0, .slice none 0 0, .slice none 0 0]) ∧ Hid (Below w0.heap.size w0 Z9) ∧ Below V3.heap.size V3 Z9 := ⟨_, rfl, Blk.new _ _ _, HB3.out.alloc HB3.out.size _, (Below.refl _ _).alloc (Nat.le_refl _) _⟩
            rw [← hV9]
            clear hV9
            obtain ⟨gt, hgte⟩ : ∃ gt, gt = V3.heap.size := ⟨_, rfl⟩
            rw [← hgte] at HZ4 ⊢
            have hgt : w0.heap.size ≤ gt := by rw [hgte]; exact HB3.out.size
            clear hgte
            have HRw4 := Lib.hid (HRw3.out.on hb9)
            have hlw3 := HRw3.out.lt
            have hsw3 := hb9.size
            have HRr4 := Lib.hid (HRr3.out.on hb9)
            have hlr3 := HRr3.out.lt
            have hsr3 := hb9.size
            have HRp4 := Lib.hid (HRp3.out.on hb9)
            have hlp3 := HRp3.out.lt
            have hsp3 := hb9.size
            clear hb9
            refine wpAnyH_ready (rs := [11]) (by kernel_rfl) (by simp) (AllReadyH.cons rfl (fun K5 hK5 => ?_) (AllReadyH.nil))
            rw [if_pos (by rfl)]
            have hx := HZ4.out
            refine wp_store_row _ _ _ rfl gt #[.slice (some ⟨gw, 0, none⟩) nw kw, .slice (some ⟨gr, 0, none⟩) n kr, .slice (some ⟨gp, 0, none⟩) n kp, .slice none 0 0] rfl rfl 113 _ hx size_lst rfl (lst_one _ _ _ _ _ _ _ _ _ _ _ _) ?_
            refine hK5.out _ _ (HSo.out _ (rowB HB4.out hgt)) (fun _ => ?_)
            refine wpAnyH_done (by kernel_rfl) ?_ _
            go_wp2_with fail
            go_meet
            exact ⟨gt, rfl, _, _, _, _, _, _, Cpy.mk' HB4.out hx HRw4.out HRr4.out HRp4.out (by omega) ⟨hgt, hgw, hgr, hgp⟩⟩
        · rw [if_pos (by rfl)]
          go_simp
          refine hK3.out _ _ (HSo.out _ (HB2.out.alloc HB2.out.size _)) (fun _ => ?_)
          obtain ⟨V3, hV9, HZ3, HB3, hb9⟩ : ∃ Z9, Z9 = V2.alloc (.cells #[.slice none 0 0, .slice none 0 0, .slice none 0 0, .slice none 0 0] 113) ∧ Hid (Blk Z9 V2.heap.size 113 [.slice none 0 0, .slice none 0 0, .slice none 0 0, .slice none 0 0]) ∧ Hid (Below w0.heap.size w0 Z9) ∧ Below V2.heap.size V2 Z9 := ⟨_, rfl, Blk.new _ _ _, HB2.out.alloc HB2.out.size _, (Below.refl _ _).alloc (Nat.le_refl _) _⟩
          rw [← hV9]
          clear hV9
          obtain ⟨gt, hgte⟩ : ∃ gt, gt = V2.heap.size := ⟨_, rfl⟩
          rw [← hgte] at HZ3 ⊢
          have hgt : w0.heap.size ≤ gt := by rw [hgte]; exact HB2.out.size
          clear hgte
          have HRw3 := Lib.hid (HRw2.out.on hb9)
          have hlw2 := HRw2.out.lt
          have hsw2 := hb9.size
          have HRr3 := Lib.hid (HRr2.out.on hb9)
          have hlr2 := HRr2.out.lt
          have hsr2 := hb9.size
          clear hb9
          refine wpAnyH_ready (rs := [8]) (by kernel_rfl) (by simp) (AllReadyH.cons rfl (fun K4 hK4 => ?_) (AllReadyH.nil))
          · rw [if_pos (by rfl)]
            go_simp
            go_at_call 121
            refine (HCp.out _ HB3.out).mono ?_
            rintro e V4 ⟨gp, kp, rfl, hgp0, hR9, hb9⟩
            have HB4 := Lib.hid (Below.step9 HB3.out hb9 (Nat.le_refl w0.heap.size))
            have HRp4 := Lib.hid hR9
            have hgp : w0.heap.size ≤ gp := Nat.le_trans HB3.out.size hgp0
            have HRw4 := Lib.hid (HRw3.out.on hb9)
            have hlw3 := HRw3.out.lt
            have HRr4 := Lib.hid (HRr3.out.on hb9)
            have hlr3 := HRr3.out.lt
            have HZ4 := Lib.hid (HZ3.out.below hb9 HZ3.out.lt)
            clear hR9 hb9
            refine hK4.out _ _ (HSo.out _ HB4.out) (fun _ => ?_)
            refine wpAnyH_take (i := 9) (v := .agg #[.slice (some ⟨gw, 0, none⟩) nw kw, .slice (some ⟨gr, 0, none⟩) n kr, .slice (some ⟨gp, 0, none⟩) n kp, .slice none 0 0]) rfl (by kernel_rfl) (by kernel_rfl) (by kernel_rfl) (fun _ _ _ h => h) (Or.inl ⟨by rfl, ?_⟩) (HSo.out _ HB4.out) ?_
            · (intro W hSw; (try dsimp only at hSw); go_simp)
            show wpAnyH _ _ _ _ _ _ _ (Act.put _ (some 15) _) _
            simp only [Act.put, List.setIfInBounds_toArray, List.set_cons_zero, List.set_cons_succ]
            refine wpAnyH_ready (rs := [11]) (by kernel_rfl) (by simp) (AllReadyH.cons rfl (fun K5 hK5 => ?_) (AllReadyH.nil))
            rw [if_pos (by rfl)]
            have hx := HZ4.out
            refine wp_store_row _ _ _ rfl gt #[.slice (some ⟨gw, 0, none⟩) nw kw, .slice (some ⟨gr, 0, none⟩) n kr, .slice (some ⟨gp, 0, none⟩) n kp, .slice none 0 0] rfl rfl 113 _ hx size_lst rfl (lst_one _ _ _ _ _ _ _ _ _ _ _ _) ?_
            refine hK5.out _ _ (HSo.out _ (rowB HB4.out hgt)) (fun _ => ?_)
            refine wpAnyH_done (by kernel_rfl) ?_ _
            go_wp2_with fail
            go_meet
            exact ⟨gt, rfl, _, _, _, _, _, _, Cpy.mk' HB4.out hx HRw4.out HRr4.out HRp4.out (by omega) ⟨hgt, hgw, hgr, hgp⟩⟩
      · rw [if_pos (by rfl)]
        go_simp
        refine hK2.out _ _ (HSo.out _ (HB1.out.alloc HB1.out.size _)) (fun _ => ?_)
        obtain ⟨V2, hV9, HZ2, HB2, hb9⟩ : ∃ Z9, Z9 = V1.alloc (.cells #[.slice none 0 0, .slice none 0 0, .slice none 0 0, .slice none 0 0] 113) ∧ Hid (Blk Z9 V1.heap.size 113 [.slice none 0 0, .slice none 0 0, .slice none 0 0, .slice none 0 0]) ∧ Hid (Below w0.heap.size w0 Z9) ∧ Below V1.heap.size V1 Z9 := ⟨_, rfl, Blk.new _ _ _, HB1.out.alloc HB1.out.size _, (Below.refl _ _).alloc (Nat.le_refl _) _⟩
        rw [← hV9]
        clear hV9
        obtain ⟨gt, hgte⟩ : ∃ gt, gt = V1.heap.size := ⟨_, rfl⟩
        rw [← hgte] at HZ2 ⊢
        have hgt : w0.heap.size ≤ gt := by rw [hgte]; exact HB1.out.size
        clear hgte
        have HRw2 := Lib.hid (HRw1.out.on hb9)
        have hlw1 := HRw1.out.lt
        have hsw1 := hb9.size
        clear hb9
        refine wpAnyH_ready (rs := [5]) (by kernel_rfl) (by simp) (AllReadyH.cons rfl (fun K3 hK3 => ?_) (AllReadyH.nil))
        · rw [if_pos (by rfl)]
          go_simp
          go_at_call 151
          refine (HCr.out _ HB2.out).mono ?_
          rintro e V3 ⟨gr, kr, rfl, hgr0, hR9, hb9⟩
          have HB3 := Lib.hid (Below.step9 HB2.out hb9 (Nat.le_refl w0.heap.size))
          have HRr3 := Lib.hid hR9
          have hgr : w0.heap.size ≤ gr := Nat.le_trans HB2.out.size hgr0
          have HRw3 := Lib.hid (HRw2.out.on hb9)
          have hlw2 := HRw2.out.lt
          have HZ3 := Lib.hid (HZ2.out.below hb9 HZ2.out.lt)
          clear hR9 hb9
          refine hK3.out _ _ (HSo.out _ HB3.out) (fun _ => ?_)
          refine wpAnyH_ready (rs := [8]) (by kernel_rfl) (by simp) (AllReadyH.cons rfl (fun K4 hK4 => ?_) (AllReadyH.nil))
          · rw [if_pos (by rfl)]
            go_simp
            go_at_call 121
            refine (HCp.out _ HB3.out).mono ?_
            rintro e V4 ⟨gp, kp, rfl, hgp0, hR9, hb9⟩
            have HB4 := Lib.hid (Below.step9 HB3.out hb9 (Nat.le_refl w0.heap.size))
            have HRp4 := Lib.hid hR9
            have hgp : w0.heap.size ≤ gp := Nat.le_trans HB3.out.size hgp0
            have HRw4 := Lib.hid (HRw3.out.on hb9)
            have hlw3 := HRw3.out.lt
            have HRr4 := Lib.hid (HRr3.out.on hb9)
            have hlr3 := HRr3.out.lt
            have HZ4 := Lib.hid (HZ3.out.below hb9 HZ3.out.lt)
            clear hR9 hb9
            refine hK4.out _ _ (HSo.out _ HB4.out) (fun _ => ?_)
            refine wpAnyH_take (i := 9) (v := .agg #[.slice (some ⟨gw, 0, none⟩) nw kw, .slice (some ⟨gr, 0, none⟩) n kr, .slice (some ⟨gp, 0, none⟩) n kp, .slice none 0 0]) rfl (by kernel_rfl) (by kernel_rfl) (by kernel_rfl) (fun _ _ _ h => h) (Or.inl ⟨by rfl, ?_⟩) (HSo.out _ HB4.out) ?_
            · (intro W hSw; (try dsimp only at hSw); go_simp)
            show wpAnyH _ _ _ _ _ _ _ (Act.put _ (some 15) _) _
            simp only [Act.put, List.setIfInBounds_toArray, List.set_cons_zero, List.set_cons_succ]
            refine wpAnyH_ready (rs := [11]) (by kernel_rfl) (by simp) (AllReadyH.cons rfl (fun K5 hK5 => ?_) (AllReadyH.nil))
            rw [if_pos (by rfl)]
            have hx := HZ4.out
            refine wp_store_row _ _ _ rfl gt #[.slice (some ⟨gw, 0, none⟩) nw kw, .slice (some ⟨gr, 0, none⟩) n kr, .slice (some ⟨gp, 0, none⟩) n kp, .slice none 0 0] rfl rfl 113 _ hx size_lst rfl (lst_one _ _ _ _ _ _ _ _ _ _ _ _) ?_
            refine hK5.out _ _ (HSo.out _ (rowB HB4.out hgt)) (fun _ => ?_)
            refine wpAnyH_done (by kernel_rfl) ?_ _
            go_wp2_with fail
            go_meet
            exact ⟨gt, rfl, _, _, _, _, _, _, Cpy.mk' HB4.out hx HRw4.out HRr4.out HRp4.out (by omega) ⟨hgt, hgw, hgr, hgp⟩⟩
    · rw [if_pos (by rfl)]
      go_simp
      refine hK1.out _ _ (HSo.out _ (HB0'.out.alloc HB0'.out.size _)) (fun _ => ?_)
      obtain ⟨V1, hV9, HZ1, HB1, hb9⟩ : ∃ Z9, Z9 = V0.alloc (.cells #[.slice none 0 0, .slice none 0 0, .slice none 0 0, .slice none 0 0] 113) ∧ Hid (Blk Z9 V0.heap.size 113 [.slice none 0 0, .slice none 0 0, .slice none 0 0, .slice none 0 0]) ∧ Hid (Below w0.heap.size w0 Z9) ∧ Below V0.heap.size V0 Z9 := ⟨_, rfl, Blk.new _ _ _, HB0'.out.alloc HB0'.out.size _, (Below.refl _ _).alloc (Nat.le_refl _) _⟩
      rw [← hV9]
      clear hV9
      obtain ⟨gt, hgte⟩ : ∃ gt, gt = V0.heap.size := ⟨_, rfl⟩
      rw [← hgte] at HZ1 ⊢
      have hgt : w0.heap.size ≤ gt := by rw [hgte]; exact HB0'.out.size
      clear hgte
      clear hb9
      refine wpAnyH_ready (rs := [2]) (by kernel_rfl) (by simp) (AllReadyH.cons rfl (fun K2 hK2 => ?_) (AllReadyH.nil))
      · rw [if_pos (by rfl)]
        go_simp
        go_at_call 121
        refine (HCw.out _ HB1.out).mono ?_
        rintro e V2 ⟨gw, kw, rfl, hgw0, hR9, hb9⟩
        have HB2 := Lib.hid (Below.step9 HB1.out hb9 (Nat.le_refl w0.heap.size))
        have HRw2 := Lib.hid hR9
        have hgw : w0.heap.size ≤ gw := Nat.le_trans HB1.out.size hgw0
        have HZ2 := Lib.hid (HZ1.out.below hb9 HZ1.out.lt)
        clear hR9 hb9
        refine hK2.out _ _ (HSo.out _ HB2.out) (fun _ => ?_)
        refine wpAnyH_ready (rs := [5]) (by kernel_rfl) (by simp) (AllReadyH.cons rfl (fun K3 hK3 => ?_) (AllReadyH.nil))
        · rw [if_pos (by rfl)]
          go_simp
          go_at_call 151
          refine (HCr.out _ HB2.out).mono ?_
          rintro e V3 ⟨gr, kr, rfl, hgr0, hR9, hb9⟩
          have HB3 := Lib.hid (Below.step9 HB2.out hb9 (Nat.le_refl w0.heap.size))
          have HRr3 := Lib.hid hR9
          have hgr : w0.heap.size ≤ gr := Nat.le_trans HB2.out.size hgr0
          have HRw3 := Lib.hid (HRw2.out.on hb9)
          have hlw2 := HRw2.out.lt
          have HZ3 := Lib.hid (HZ2.out.below hb9 HZ2.out.lt)
          clear hR9 hb9
          refine hK3.out _ _ (HSo.out _ HB3.out) (fun _ => ?_)
          refine wpAnyH_ready (rs := [8]) (by kernel_rfl) (by simp) (AllReadyH.cons rfl (fun K4 hK4 => ?_) (AllReadyH.nil))
          · rw [if_pos (by rfl)]
            go_simp
            go_at_call 121
            refine (HCp.out _ HB3.out).mono ?_
            rintro e V4 ⟨gp, kp, rfl, hgp0, hR9, hb9⟩
            have HB4 := Lib.hid (Below.step9 HB3.out hb9 (Nat.le_refl w0.heap.size))
            have HRp4 := Lib.hid hR9
            have hgp : w0.heap.size ≤ gp := Nat.le_trans HB3.out.size hgp0
            have HRw4 := Lib.hid (HRw3.out.on hb9)
            have hlw3 := HRw3.out.lt
            have HRr4 := Lib.hid (HRr3.out.on hb9)
            have hlr3 := HRr3.out.lt
            have HZ4 := Lib.hid (HZ3.out.below hb9 HZ3.out.lt)
            clear hR9 hb9
            refine hK4.out _ _ (HSo.out _ HB4.out) (fun _ => ?_)
            refine wpAnyH_take (i := 9) (v := .agg #[.slice (some ⟨gw, 0, none⟩) nw kw, .slice (some ⟨gr, 0, none⟩) n kr, .slice (some ⟨gp, 0, none⟩) n kp, .slice none 0 0]) rfl (by kernel_rfl) (by kernel_rfl) (by kernel_rfl) (fun _ _ _ h => h) (Or.inl ⟨by rfl, ?_⟩) (HSo.out _ HB4.out) ?_
            · (intro W hSw; (try dsimp only at hSw); go_simp)
            show wpAnyH _ _ _ _ _ _ _ (Act.put _ (some 15) _) _
            simp only [Act.put, List.setIfInBounds_toArray, List.set_cons_zero, List.set_cons_succ]
            refine wpAnyH_ready (rs := [11]) (by kernel_rfl) (by simp) (AllReadyH.cons rfl (fun K5 hK5 => ?_) (AllReadyH.nil))
            rw [if_pos (by rfl)]
            have hx := HZ4.out
            refine wp_store_row _ _ _ rfl gt #[.slice (some ⟨gw, 0, none⟩) nw kw, .slice (some ⟨gr, 0, none⟩) n kr, .slice (some ⟨gp, 0, none⟩) n kp, .slice none 0 0] rfl rfl 113 _ hx size_lst rfl (lst_one _ _ _ _ _ _ _ _ _ _ _ _) ?_
            refine hK5.out _ _ (HSo.out _ (rowB HB4.out hgt)) (fun _ => ?_)
            refine wpAnyH_done (by kernel_rfl) ?_ _
            go_wp2_with fail
            go_meet
            exact ⟨gt, rfl, _, _, _, _, _, _, Cpy.mk' HB4.out hx HRw4.out HRr4.out HRp4.out (by omega) ⟨hgt, hgw, hgr, hgp⟩⟩
  case rest =>
    obtain ⟨gt, rfl, HC⟩ := hcut
    obtain ⟨gw, kw, gr, kr, gp, kp, hc⟩ := HC.out
    obtain ⟨wd, rfl⟩ : ∃ wd : World, wd = wc := ⟨_, rfl⟩
    have b3 : wd.cell? ⟨w.heap.size, 3, none⟩ = some (.slice (some ⟨h.gb, 0, none⟩) n h.kb) := (HB0.out.below hc.bel HB0.out.lt).cell rfl
    have HCd := Lib.hid hc
    clear hc HC HCw HCr HCp HSo
    obtain ⟨i1, hi1, hi1z, hi1s, hi1b⟩ := info_parts info_pend
    go_wp2_with fail
    clear b3
    go_loopg [19] n (fun gk i wr => ∃ (j : Nat) (bv : Value), j + gk = n ∧ i = .int .i64 j ∧ Hid (Cpy w0 n nw S gt gw kw gr kr gp kp bv j wr))
    case atStart => exact ⟨0, _, by omega, rfl, HCd⟩
    case round =>
      obtain ⟨j, bv, hj, rfl, HI⟩ := hrel
      by_cases hlt : j < n
      · have e1 : (j : Int) < n := by omega
        have e0 : (0 : Int) ≤ j := by omega
        have c1 : wr.cell? ⟨h.gb, j, none⟩ = some (.slice none 0 0) := (HS0.out.on HI.out.bel).buf hlt
        obtain ⟨A, kb, hbv, hk1, hk2⟩ := own_form HI.out.b
        subst hbv
        have b0 : wr.cell? ⟨gt, 3, none⟩ = some (.slice A j kb) := HI.out.t.cell rfl
        have bf := HI.out.t.frozen 3
        have b1 : (wr.alloc (.cells #[.slice none 0 0] 278)).cell? ⟨gt, 3, none⟩ = some (.slice A j kb) := (HI.out.t.alloc _).cell rfl
        have hbz := HI.out.bel.size
        unfold maxLen at hk2
        go_upto_region 5 with fail
        go_region_law (first
            | (refine step_app _ (by rfl) _ _ 111 (by rfl) w0.heap.size 278 i1 (.slice none 0 0) 1 24 Try.underlying111 hi1 hi1z hi1s hi1b rfl (by decide) (.slice A j kb) j (List.replicate j (.slice none 0 0)) (by rfl) (HI.out.b.drew.alloc _) (wr.heap.size + 1) (some ⟨wr.heap.size, 0, none⟩) 1 1 [.slice none 0 0] (by rfl) (((Blk.new wr.drew 278 _).sl rfl).up (by simp)) one_nil (j + 1) rfl _ (rep_snoc j _) _ rfl (by simp only [maxLen]; omega) (by omega) (by simp; omega) ?_
               intro A10 k10 W10 hown10 hg10 hat10 hk10 hk11
               have hB10 := (((HI.out.t.below (Below.refl _ _).drew HI.out.t.lt).alloc (.cells #[.slice none 0 0] 278))).grown hg10 (own_nb HI.out.b HI.out.t (by decide))
               have d0 := hB10.cell (i := 3) rfl
               have df := hB10.frozen 3)
            | (rw [if_pos (by rfl)]; go_simp; go_at_call 152; refine (cloP_any _).mono ?_; rintro e w3 ⟨rfl, rfl⟩))
        all_goals (
          go_wp2_with fail
          go_roundg (gk - 1)
          case measure => omega
          case rel => exact ⟨j + 1, _, by omega, by go_num, HI.out.next ((Below.refl _ wr).drew.alloc (Nat.le_refl _) (.cells #[.slice none 0 0] 278)) hg10 hown10⟩)
      · obtain rfl : j = n := by omega
        obtain ⟨A, kb, hbv, hk1, hk2⟩ := own_form HI.out.b
        subst hbv
        obtain ⟨gb, hgb, hB, hR⟩ := Rw.of_own HI.out.b (by omega)
        subst hgb
        have hzd := HI.out.bel.size
        have HZ9 := Lib.hid (HZ0.out.below HI.out.bel HZ0.out.lt)
        have hT := HI.out.t
        have HR9 := Lib.hid hR
        clear hR
        go_upto_region 7 with fail
        refine wp_region_lit ?_
        refine wpList_load_row rfl _ _ rfl gt rfl 113 _ (0, 0) _ hT Try.underlying113 rfl size_lst ?_
        refine wpList_store_row rfl _ _ _ rfl (w.heap.size + 1) _ rfl rfl _ _ HZ9.out size_lst rfl (lst_one _ _ _ _ _ _ _ _ _ _ _ _) ?_
        have HR := Lib.hid (setRow_heap wr (w.heap.size + 1) _ (stL ⟨gw, kw, gr, kr, gp, kp, gb, kb⟩ j nw).toArray _ _ HZ9.out)
        have HG := HI.out.ge
        go_wp2_with fail
        refine bodyPost_ret_by (results_cell_row rfl _ _ (w.heap.size + 1) 113 _ (0, 0) _ rfl HR.out Try.underlying113 rfl size_lst) rfl ?_
        refine ⟨⟨gw, kw, gr, kr, gp, kp, gb, kb⟩, rfl, ⟨by dsimp only; omega, by dsimp only; omega, by dsimp only; omega, by dsimp only; omega⟩, ⟨HI.out.w.kept (rowK (by omega)), HI.out.r.kept (rowK (by omega)), HI.out.p.kept (rowK (by omega)), HR9.out.kept (rowK (by omega)), ?_⟩, rowB (HW0.out.trans (HI.out.bel.mono (by omega))) (by omega)⟩
        obtain ⟨n1, n2, n3⟩ := HI.out.ne
        have m1 := own_nr HI.out.b HI.out.w (by decide)
        have m2 := own_nr HI.out.b HI.out.r (by decide)
        have m3 := own_nr HI.out.b HI.out.p (by decide)
        exact ⟨n1, n2, fun e => m1 (by have e' : gw = gb := e; rw [e']; rfl), n3, fun e => m2 (by have e' : gr = gb := e; rw [e']; rfl), fun e => m3 (by have e' : gp = gb := e; rw [e']; rfl)⟩
end Go.Proofs.Ytgbopmgeicokoaa
