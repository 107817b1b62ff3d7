/-
slices.Clone of a buffer, and tso.copied of a state with buf
-/
import Derived.Test.YtgjdgapfnfhklaaGreatZ25
import Derived.Test.YtgjdgapfnfhklaaGreatZ26
import Derived.Deep.DeepCutAuto
import Derived.Deep.RegionWith
import Derived.Deep.RegionLaw
import Derived.Great.BuildSlice
set_option linter.unusedSimpArgs false
set_option linter.unusedVariables false
set_option maxRecDepth 100000
set_option maxHeartbeats 8000000
namespace Go.Proofs.YtgjdgapfnfhklaaGreat
open Go.RowKit
theorem size_lst : (Tryz.prog.info? 77).map (·.size) = some 4 := by kernel_rfl
theorem lst_one (a b c d : Option Addr) (n1 k1 n2 k2 n3 k3 n4 k4 : Nat) : (#[.slice a n1 k1, .slice b n2 k2, .slice c n3 k3, .slice d n4 k4] : Array Value).all (·.oneCell') = true := by simp [Value.oneCell']
theorem own_kept {w w' : World} {B e s n g : Nat} {t : TypeId} {v : Value} {xs cs : List Value} (h : w.ownsRow B e s v n xs) (hB : Blk w g t cs) (hne : e ≠ t) (hk : ∀ q, q < w.heap.size -> q ≠ g -> w'.heap[q]? = w.heap[q]?) : w'.ownsRow B e s v n xs := by
 have hn := own_nb h hB hne
 refine ⟨h.1, ?_⟩
 rcases h.2 with h0 | ⟨q, cap, cur, hv, hb, hg, h3⟩
 ·exact Or.inl h0
 ·refine Or.inr ⟨q, cap, cur, hv, hb, ?_, h3⟩
  rw [hk q (Array.getElem?_eq_some_iff.1 hg).1 (fun he => hn (by rw [hv, he]; rfl))]
  exact hg
theorem own_low {w : World} {base base' e size n : Nat} {v : Value} {xs : List Value} (h : w.ownsRow base e size v n xs) (hb : base' <= base) : w.ownsRow base' e size v n xs := ⟨h.1, h.2.imp id fun ⟨g, cap, cur, e1, h1, h2⟩ => ⟨g, cap, cur, e1, Nat.le_trans hb h1, h2⟩⟩
theorem own_grown {w w' : World} {B B' n n' s s' : Nat} {e e' : TypeId} {v v' : Value} {xs xs' : List Value} (h : w.ownsRow B e s v n xs) (h' : w.ownsRow B' e' s' v' n' xs') (hg : w.grownBy w' v'.ownBlock) (hne : e ≠ e') : w'.ownsRow B e s v n xs := by
 refine h.kept hg ?_
 rcases h.2 with ⟨rfl, _⟩ | ⟨q, cap, cur, rfl, _, hq, _⟩
 ·exact Or.inl rfl
 ·refine Or.inr fun he => ?_
  rcases h'.2 with ⟨rfl, _⟩ | ⟨q', cap', cur', rfl, _, hq', _⟩
  ·cases he
  ·injection he with he
   dsimp only at he
   subst he
   rw [hq] at hq'
   injection hq' with hq'
   injection hq' with _ hq'
   exact hne hq'
theorem info_pend : (Tryz.prog.info? 161).map (fun i => (i.zero, i.size, i.bytes)) = some (some (.slice none 0 0), 1, 24) := by kernel_rfl
theorem info_pd : (Tryz.prog.info? 180).map (fun i => (i.zero, i.size, i.bytes)) = some (some (.agg #[.int .i64 0, .int .i64 0]), 2, 16) := by kernel_rfl
theorem own_sl {w : World} {B e s n k : Nat} {A : Option Addr} {xs : List Value} (h : w.ownsRow B e s (.slice A n k) n xs) : Sl w w.heap.size s A n xs := by
 refine ⟨h.1, fun hn => ?_⟩
 rcases h.2 with ⟨_, h0⟩ | ⟨g, cap, cur, hv, _, hg, _⟩
 ·omega
 ·injection hv with hA _ hk
  subst hA hk
  refine ⟨g, 0, rfl, (Array.getElem?_eq_some_iff.1 hg).1, fun j u hu => ?_⟩
  rw [Nat.zero_add, World.ownsRow.cellAt h j (by have := (List.getElem?_eq_some_iff.1 hu).1; rw [h.1] at this; exact this)]
  exact hu
theorem pdVals_one (q : List Pd) : ∀ u ∈ pdVals q, u.oneCell' = true := by
 intro u hu
 obtain ⟨p, _, hp⟩ := List.mem_flatMap.1 hu
 exact pdL_one p u hp
def ClqR (x : Bf) (w : World) (e : Ending) (w' : World) : Prop :=
 ∃ A k, e = .returned (.slice A x.q.length k) /\ w'.ownsRow w.heap.size 180 2 (.slice A x.q.length k) x.q.length (pdVals x.q) /\ Below w.heap.size w w' /\ (x.hd.1 = none -> A = none /\ k = 0 /\ x.q = [])
theorem cloQ_any (x : Bf) (w : World) (hl : x.hd.2.1 = x.q.length) (h : w.ownsRow 0 180 2 (hdV x.hd) x.q.length (pdVals x.q)) (hn : x.q.length <= 10) :
  Calls Tryz.prog 76 #[hdV x.hd] w (ClqR x w) := by
 obtain ⟨⟨A, n, k⟩, q⟩ := x
 dsimp only at hl h hn
 subst hl
 have qT : ∀ (w : World) (a : Option Addr) (n c : Nat), (binOp .eql 161 (.slice a n c) (.slice none 0 0)).run Tryz.prog w = .ok (.bool a.isNone) w := fun w a n c => Lib.run_eql_slice_nil w _ _ a n c 0 0 Tryz.underlying161
 cases A with
 | none =>
  have hq : q = [] := by
   rcases h.2 with ⟨_, h0⟩ | ⟨g, cap, cur, hv, _⟩
   ·exact List.eq_nil_of_length_eq_zero h0
   ·injection hv with hv; cases hv
  subst hq
  have hk : k = 0 := by
   rcases h.2 with ⟨hv, _⟩ | ⟨g, cap, cur, hv, _⟩
   ·injection hv
   ·injection hv with hv; cases hv
  subst hk
  clear h
  go_enter Tryz.func76, Tryz.ntmps76
  go_wp2_with fail
  go_ret
  exact ⟨none, 0, rfl, World.ownsRow_nil _ _ _ _, Below.refl _ _, fun _ => ⟨rfl, rfl, rfl⟩⟩
 | some a =>
  obtain ⟨i0, hi0, hi0z, hi0s, hi0b⟩ := info_parts info_pd
  have HS := Lh (own_sl h)
  have H1 := Lh (pdVals_one q)
  clear h
  go_enter Tryz.func76, Tryz.ntmps76
  go_wp2_with (at_builtin; go_must (refine wpList_app0 _ rfl _ _ 161 rfl w.heap.size 180 i0 (.agg #[.int .i64 0, .int .i64 0]) 2 16 Tryz.underlying161 hi0 hi0z hi0s hi0b rfl (by decide) _ rfl (made_e _ _ _ (Nat.le_refl _)) w.heap.size (some a) q.length k (pdVals q) rfl (HS.o.below ((Below.refl _ _).alloc (Nat.le_refl _) _)) H1.o (by simp only [maxLen]; omega) (by omega) (by rw [World.size_alloc]; omega) ?_; intro A2 k2 w2 hown2 hb2 hA2 hk1 hk2; have HO2 := Lh hown2; have HB2 := Lh hb2; clear hown2 hb2 hA2))
  go_ret
  exact ⟨_, k2, rfl, HO2.o, ((Below.refl _ _).alloc (Nat.le_refl _) _).trans (HB2.o.mono (by rw [World.size_alloc]; omega)), fun h9 => by cases h9⟩
theorem rowB {B g : Nat} {a w : World} {cs : Array Value} (h : Below B a w) (hg : B <= g) : Below B a (w.setRow g cs) :=
 ⟨h.os, h.tape, h.output, by have := h.size; simpa [World.setRow] using this, fun k hk => (setRow_other w g k cs (by omega)).trans (h.block k hk)⟩
theorem rowK {w : World} {g : Nat} {cs : Array Value} {k : Nat} (hk : k ≠ g) : (w.setRow g cs).heap[k]? = w.heap[k]? := setRow_other w g k cs hk
theorem Below.step9 {B : Nat} {a b c : World} (h : Below B a b) (h2 : Below b.heap.size b c) (hB : B <= a.heap.size) : Below B a c := h.trans (h2.mono (Nat.le_trans hB h.size))
def NewS (B : Nat) (h : SH) : Prop := B <= h.gw /\ B <= h.gr /\ B <= h.gp /\ B <= h.gb
def NewQ (B : Nat) (h : SH) (bs : List Bf) : Prop := NewS B h /\ ∀ x ∈ bs, ∀ g, x.blk = some g -> B <= g
def CpqR (n nw : Nat) (S : LS) (bs : List Bf) (w : World) (e : Ending) (w' : World) : Prop := ∃ h' bs', e = .returned (stV h' n nw) /\ NewQ w.heap.size h' bs' /\ StQ w' h' n nw S bs' /\ bs'.map (·.q) = bs.map (·.q) /\ Below w.heap.size w w' /\ NilB bs bs'
theorem NilB.next {bs ds : List Bf} {x : Bf} {A : Option Addr} {k : Nat} (h : NilB bs ds) (hx : x ∈ bs) (hn : x.hd.1 = none -> A = none /\ k = 0 /\ x.q = []) : NilB bs (ds ++ [⟨(A, x.q.length, k), x.q⟩]) := fun h9 y hy => by
 rcases List.mem_append.1 hy with hy | hy
 ·exact h h9 y hy
 ·rw [List.mem_singleton] at hy
  obtain ⟨rfl, rfl, h0⟩ := hn (h9 x hx)
  rw [hy, h0]
  rfl
structure CpyQ (w0 : World) (n nw : Nat) (S : LS) (gt gw kw gr kr gp kp : Nat) (bv : Value) (j : Nat) (bs : List Bf) (W : World) : Prop where
 bel : Below w0.heap.size w0 W
 t : Blk W gt 77 [.slice (some ⟨gw, 0, none⟩) nw kw, .slice (some ⟨gr, 0, none⟩) n kr, .slice (some ⟨gp, 0, none⟩) n kp, bv]
 w : Rw W gw 3 1 nw kw (ints S.ws)
 r : Rw W gr 96 4 n kr (ints S.rs)
 p : Rw W gp 3 1 n kp (natsI S.ps)
 b : W.ownsRow w0.heap.size 161 1 bv j (bs.map fun x => hdV x.hd)
 own : ∀ x ∈ bs, x.hd.2.1 = x.q.length /\ W.ownsRow w0.heap.size 180 2 (hdV x.hd) x.q.length (pdVals x.q)
 far : ∀ (i j : Nat) (x y : Bf), i ≠ j -> bs[i]? = some x -> bs[j]? = some y -> x.blk = none ∨ x.blk ≠ y.blk
 ne : gw ≠ gr /\ gw ≠ gp /\ gr ≠ gp
 ge : w0.heap.size <= gt /\ w0.heap.size <= gw /\ w0.heap.size <= gr /\ w0.heap.size <= gp
theorem CpyQ.mk' {w0 W : World} {n nw : Nat} {S : LS} {gt gw kw gr kr gp kp : Nat} (hb : Below w0.heap.size w0 W) (hz : Blk W gt 77 [.slice none 0 0, .slice none 0 0, .slice none 0 0, .slice none 0 0])
  (hw : Rw W gw 3 1 nw kw (ints S.ws)) (hr : Rw W gr 96 4 n kr (ints S.rs)) (hp : Rw W gp 3 1 n kp (natsI S.ps)) (ne : gw ≠ gp) (ge : w0.heap.size <= gt /\ w0.heap.size <= gw /\ w0.heap.size <= gr /\ w0.heap.size <= gp) :
  CpyQ w0 n nw S gt gw kw gr kr gp kp (.slice none 0 0) 0 [] (W.setRow gt #[.slice (some ⟨gw, 0, none⟩) nw kw, .slice (some ⟨gr, 0, none⟩) n kr, .slice (some ⟨gp, 0, none⟩) n kp, .slice none 0 0]) := by
 have hne : gw ≠ gr := by
  obtain ⟨_, cs, h1, _⟩ := hr
  exact fun e => hw.ne h1 (by decide) e.symm
 have hne2 : gr ≠ gp := by
  obtain ⟨_, cs, h1, _⟩ := hp
  exact fun e => hr.ne h1 (by decide) e.symm
 exact ⟨rowB hb ge.1, setRow_heap W gt _ _ _ _ hz, hw.kept (rowK (Ne.symm (hw.ne hz (by decide)))), hr.kept (rowK (Ne.symm (hr.ne hz (by decide)))), hp.kept (rowK (Ne.symm (hp.ne hz (by decide)))), World.ownsRow_nil _ _ _ _, fun x hx => (by cases hx), fun i j x y _ hx => (by cases hx), ⟨hne, ne, hne2⟩, ge⟩
theorem CpyQ.on {w0 W W' : World} {n nw : Nat} {S : LS} {gt gw kw gr kr gp kp j : Nat} {bv : Value} {bs : List Bf} (h : CpyQ w0 n nw S gt gw kw gr kr gp kp bv j bs W) (hb : Below W.heap.size W W') : CpyQ w0 n nw S gt gw kw gr kr gp kp bv j bs W' :=
 ⟨h.bel.trans (hb.mono h.bel.size), h.t.below hb h.t.lt, h.w.on hb, h.r.on hb, h.p.on hb, h.b.below hb, fun x hx => ⟨(h.own x hx).1, (h.own x hx).2.below hb⟩, h.far, h.ne, h.ge⟩
theorem CpyQ.next {w0 W W1 W2 : World} {n nw : Nat} {S : LS} {gt gw kw gr kr gp kp j k k2 : Nat} {A A2 : Option Addr} {bv : Value} {bs : List Bf} {q : List Pd} (h : CpyQ w0 n nw S gt gw kw gr kr gp kp bv j bs W) (hb : Below W.heap.size W W1) (hq : W1.ownsRow W.heap.size 180 2 (.slice A2 q.length k2) q.length (pdVals q)) (hg : W1.grownBy W2 bv.ownBlock)
  (ho : W2.ownsRow w0.heap.size 161 1 (.slice A (j + 1) k) (j + 1) ((bs.map fun x => hdV x.hd) ++ [.slice A2 q.length k2])) : CpyQ w0 n nw S gt gw kw gr kr gp kp (.slice A (j + 1) k) (j + 1) (bs ++ [⟨(A2, q.length, k2), q⟩]) (W2.setCell ⟨gt, 3, none⟩ (.slice A (j + 1) k)) := by
 have t1 := (h.t.below hb h.t.lt).grown hg (own_nb h.b h.t (by decide))
 have w1 := (h.w.on hb).grown hg (own_nr h.b h.w (by decide))
 have r1 := (h.r.on hb).grown hg (own_nr h.b h.r (by decide))
 have p1 := (h.p.on hb).grown hg (own_nr h.b h.p (by decide))
 have own2 : ∀ {B : Nat} {v : Value} {m : Nat} {xs : List Value}, W1.ownsRow B 180 2 v m xs -> (W2.setCell ⟨gt, 3, none⟩ (.slice A (j + 1) k)).ownsRow B 180 2 v m xs := fun h9 => own_far (own_grown h9 (h.b.below hb) hg (by decide)) t1 (by decide)
 have get : ∀ (i : Nat) (x : Bf), (bs ++ [⟨(A2, q.length, k2), q⟩])[i]? = some x -> bs[i]? = some x ∨ x = ⟨(A2, q.length, k2), q⟩ := fun i x hx => by
  rcases List.mem_append.1 (List.mem_of_getElem? hx) with _ | _ <;> (by_cases hi : i < bs.length)
  ·rw [List.getElem?_append_left hi] at hx; exact Or.inl hx
  ·rw [List.getElem?_append_right (by omega)] at hx; exact Or.inr (by simpa using List.mem_of_getElem? hx)
  ·rw [List.getElem?_append_left hi] at hx; exact Or.inl hx
  ·rw [List.getElem?_append_right (by omega)] at hx; exact Or.inr (by simpa using List.mem_of_getElem? hx)
 have lt : ∀ (i : Nat) (x : Bf), bs[i]? = some x -> ∀ g, x.blk = some g -> g < W.heap.size := fun i x hx g hg9 => ((h.own x (List.mem_of_getElem? hx)).2.lt g hg9).2
 have ge : ∀ g, (Bf.mk (A2, q.length, k2) q).blk = some g -> W.heap.size <= g := fun g hg9 => (hq.lt g hg9).1
 refine ⟨(((h.bel.trans (hb.mono h.bel.size)).grown hg (Nat.le_trans h.bel.size hb.size) (fun q hq => (h.b.lt q hq).1))).setCell (p := ⟨gt, 3, none⟩) h.ge.1 _, t1.set_ 3 _, w1.far (Ne.symm (w1.ne t1 (by decide))) _, r1.far (Ne.symm (r1.ne t1 (by decide))) _, p1.far (Ne.symm (p1.ne t1 (by decide))) _, ?_, fun x hx => ?_, fun i i2 x y hij hx hy => ?_, h.ne, h.ge⟩
 ·rw [List.map_append]
  exact own_far ho t1 (by decide)
 ·rcases List.mem_append.1 hx with hx | hx
  ·exact ⟨(h.own x hx).1, own2 ((h.own x hx).2.below hb)⟩
  ·rw [List.mem_singleton] at hx
   subst hx
   exact ⟨rfl, own2 (own_low hq h.bel.size)⟩
 ·by_cases hxn : x.blk = none
  ·exact Or.inl hxn
  ·refine Or.inr fun he => ?_
   obtain ⟨g, hg9⟩ := Option.ne_none_iff_exists'.1 hxn
   have hy9 := he.symm.trans hg9
   have hil := (List.getElem?_eq_some_iff.1 hx).1
   have hjl := (List.getElem?_eq_some_iff.1 hy).1
   rw [List.length_append, List.length_singleton] at hil hjl
   by_cases hi : i < bs.length
   ·rw [List.getElem?_append_left hi] at hx
    by_cases hj : i2 < bs.length
    ·rw [List.getElem?_append_left hj] at hy
     rcases h.far i i2 x y hij hx hy with h8 | h8
     ·exact hxn h8
     ·exact h8 he
    ·rw [List.getElem?_append_right (by omega)] at hy
     have hy : y = ⟨(A2, q.length, k2), q⟩ := by simpa using List.mem_of_getElem? hy
     subst hy
     have h1 := ge g hy9
     have h2 := lt i x hx g hg9
     omega
   ·rw [List.getElem?_append_right (by omega)] at hx
    have hx : x = ⟨(A2, q.length, k2), q⟩ := by simpa using List.mem_of_getElem? hx
    subst hx
    have h1 := ge g hg9
    rw [List.getElem?_append_left (by omega)] at hy
    have h2 := lt i2 y hy g hy9
    omega
theorem copiedQ_any (h : SH) (n nw : Nat) (S : LS) (bs : List Bf) (w : World) (hs : StQ w h n nw S bs) (hq : ∀ x ∈ bs, x.q.length <= 10) (hn1 : 1 <= n) (hn4 : n <= 4) (hw1 : 1 <= nw) (hw6 : nw <= 6) :
  Calls Tryz.prog 61 #[stV h n nw] w (CpqR n nw S bs w) := by
 obtain ⟨w0, hw0⟩ : ∃ w0 : World, w0 = (w.alloc (.cells #[.slice (some ⟨h.gw, 0, none⟩) nw h.kw, .slice (some ⟨h.gr, 0, none⟩) n h.kr, .slice (some ⟨h.gp, 0, none⟩) n h.kp, .slice (some ⟨h.gb, 0, none⟩) n h.kb] 77)).alloc (.cells #[.slice none 0 0, .slice none 0 0, .slice none 0 0, .slice none 0 0] 77) := ⟨_, rfl⟩
 have HB0 : Hid (Blk w0 w.heap.size 77 (stL h n nw)) := by rw [hw0]; exact (Blk.new w 77 (stL h n nw)).alloc _
 have HZ0 : Hid (Blk w0 (w.heap.size + 1) 77 [.slice none 0 0, .slice none 0 0, .slice none 0 0, .slice none 0 0]) := by
  rw [hw0]
  have h9 := Blk.new (w.alloc (.cells #[.slice (some ⟨h.gw, 0, none⟩) nw h.kw, .slice (some ⟨h.gr, 0, none⟩) n h.kr, .slice (some ⟨h.gp, 0, none⟩) n h.kp, .slice (some ⟨h.gb, 0, none⟩) n h.kb] 77)) 77 [.slice none 0 0, .slice none 0 0, .slice none 0 0, .slice none 0 0]
  rw [World.size_alloc] at h9
  exact h9
 have HW0 : Hid (Below w.heap.size w w0) := by rw [hw0]; exact ((Below.refl _ _).alloc (Nat.le_refl _) _).alloc (by simp) _
 have HS0 := Lh (hs.on HW0.o)
 have HWe := Lh hw0
 have hz0 : w.heap.size + 1 < w0.heap.size := HZ0.o.lt
 have HSq : Hid (∀ x ∈ bs, x.hd.2.1 = x.q.length /\ x.q.length <= 10) := fun x hx => ⟨(hs.own x hx).1, hq x hx⟩
 clear hs hw0 hq
 go_enter Tryz.func61, Tryz.ntmps61
 go_upto_region 1 with fail
 rw [<- HWe.o]
 clear HWe
 have HCw : Hid (∀ W, Below w0.heap.size w0 W -> Calls Tryz.prog 55 #[.slice (some ⟨h.gw, 0, none⟩) nw h.kw] W (CloR 3 1 nw (ints S.ws) W)) := fun W hW => cloI_any h.gw 0 nw h.kw _ W (HS0.o.on hW).w.sl (ints_one' _) ⟨by omega, by omega⟩
 have HCr : Hid (∀ W, Below w0.heap.size w0 W -> Calls Tryz.prog 75 #[.slice (some ⟨h.gr, 0, none⟩) n h.kr] W (CloR 96 4 n (ints S.rs) W)) := fun W hW => cloR_any h.gr 0 n h.kr _ W (HS0.o.on hW).r.sl (ints_one' _) ⟨by omega, by omega⟩
 have HCp : Hid (∀ W, Below w0.heap.size w0 W -> Calls Tryz.prog 55 #[.slice (some ⟨h.gp, 0, none⟩) n h.kp] W (CloR 3 1 n (natsI S.ps) W)) := fun W hW => cloI_any h.gp 0 n h.kp _ W (HS0.o.on hW).p.sl (natsI_one' _) ⟨by omega, by omega⟩
 have HSo : Hid (∀ W, Below w0.heap.size w0 W -> Below w0.heap.size w0 W /\ W.cell? ⟨w.heap.size, 0, none⟩ = some (.slice (some ⟨h.gw, 0, none⟩) nw h.kw) /\ W.cell? ⟨w.heap.size, 1, none⟩ = some (.slice (some ⟨h.gr, 0, none⟩) n h.kr) /\ W.cell? ⟨w.heap.size, 2, none⟩ = some (.slice (some ⟨h.gp, 0, none⟩) n h.kp)) := fun W hW => ⟨hW, (HB0.o.below hW HB0.o.lt).cell rfl, (HB0.o.below hW HB0.o.lt).cell rfl, (HB0.o.below hW HB0.o.lt).cell rfl⟩
 go_cut [3] (fun s3 wc => ∃ gt, s3 = .pointer (some ⟨gt, 0, none⟩) /\ Hid (∃ gw kw gr kr gp kp, CpyQ w0 n nw S gt gw kw gr kr gp kp (.slice none 0 0) 0 [] wc))
 case first =>
  refine wp_region_held_drew (S := fun W => Below w0.heap.size w0 W /\ W.cell? ⟨w.heap.size, 0, none⟩ = some (.slice (some ⟨h.gw, 0, none⟩) nw h.kw) /\ W.cell? ⟨w.heap.size, 1, none⟩ = some (.slice (some ⟨h.gr, 0, none⟩) n h.kr) /\ W.cell? ⟨w.heap.size, 2, none⟩ = some (.slice (some ⟨h.gp, 0, none⟩) n h.kp)) (by kernel_rfl) (HSo.o _ (Below.refl _ _).drew) (fun hS => ?_)
  iterate 2 (refine tkF 0 (v := ?_) ?_ ?_; rotate_left; · (intro W hSw; (try dsimp only at hSw); go_simp; try with_reducible rfl); try simp only [Act.put, List.setIfInBounds_toArray, List.set_cons_zero, List.set_cons_succ])
  iterate 2 (refine tkF 3 (v := ?_) ?_ ?_; rotate_left; · (intro W hSw; (try dsimp only at hSw); go_simp; try with_reducible rfl); try simp only [Act.put, List.setIfInBounds_toArray, List.set_cons_zero, List.set_cons_succ])
  iterate 2 (refine tkF 6 (v := ?_) ?_ ?_; rotate_left; · (intro W hSw; (try dsimp only at hSw); go_simp; try with_reducible rfl); try simp only [Act.put, List.setIfInBounds_toArray, List.set_cons_zero, List.set_cons_succ])
  obtain ⟨V0, hV9, HB0', hb9⟩ : ∃ Z9, Z9 = w0.drew /\ Hid (Below w0.heap.size w0 Z9) /\ True := ⟨_, rfl, (Below.refl _ _).drew, trivial⟩
  rw [<- hV9]
  clear hV9 hb9
  refine wpAnyH_ready (rs := [2, 10]) (by kernel_rfl) (by simp) (AllReadyH.cons rfl (fun K1 hK1 => ?_) (AllReadyH.cons rfl (fun K1 hK1 => ?_) (AllReadyH.nil)))
  ·rw [if_pos (by rfl)]
   go_simp
   go_at_call 55
   refine (HCw.o _ HB0'.o).mono ?_
   rintro e V1 ⟨gw, kw, rfl, hgw0, hR9, hb9⟩
   have HB1 := Lh (Below.step9 HB0'.o hb9 (Nat.le_refl w0.heap.size))
   have HRw1 := Lh hR9
   have hgw : w0.heap.size <= gw := Nat.le_trans HB0'.o.size hgw0
   clear hR9 hb9
   refine hK1.out _ _ (HSo.o _ HB1.o) (fun _ => ?_)
   refine wpAnyH_ready (rs := [5, 10]) (by kernel_rfl) (by simp) (AllReadyH.cons rfl (fun K2 hK2 => ?_) (AllReadyH.cons rfl (fun K2 hK2 => ?_) (AllReadyH.nil)))
   ·rw [if_pos (by rfl)]
    go_simp
    go_at_call 75
    refine (HCr.o _ HB1.o).mono ?_
    rintro e V2 ⟨gr, kr, rfl, hgr0, hR9, hb9⟩
    have HB2 := Lh (Below.step9 HB1.o hb9 (Nat.le_refl w0.heap.size))
    have HRr2 := Lh hR9
    have hgr : w0.heap.size <= gr := Nat.le_trans HB1.o.size hgr0
    have HRw2 := Lh (HRw1.o.on hb9)
    have hlw1 := HRw1.o.lt
    clear hR9 hb9
    refine hK2.out _ _ (HSo.o _ HB2.o) (fun _ => ?_)
    refine wpAnyH_ready (rs := [8, 10]) (by kernel_rfl) (by simp) (AllReadyH.cons rfl (fun K3 hK3 => ?_) (AllReadyH.cons rfl (fun K3 hK3 => ?_) (AllReadyH.nil)))
    ·rw [if_pos (by rfl)]
     go_simp
     go_at_call 55
     refine (HCp.o _ HB2.o).mono ?_
     rintro e V3 ⟨gp, kp, rfl, hgp0, hR9, hb9⟩
     have HB3 := Lh (Below.step9 HB2.o hb9 (Nat.le_refl w0.heap.size))
     have HRp3 := Lh hR9
     have hgp : w0.heap.size <= gp := Nat.le_trans HB2.o.size hgp0
     have HRw3 := Lh (HRw2.o.on hb9)
     have hlw2 := HRw2.o.lt
     have HRr3 := Lh (HRr2.o.on hb9)
     have hlr2 := HRr2.o.lt
     clear hR9 hb9
     refine hK3.out _ _ (HSo.o _ HB3.o) (fun _ => ?_)
     refine tkF 9 (v := .agg #[.slice (some ⟨gw, 0, none⟩) nw kw, .slice (some ⟨gr, 0, none⟩) n kr, .slice (some ⟨gp, 0, none⟩) n kp, .slice none 0 0]) ?_ ?_ (hS := HSo.o _ HB3.o)
     ·(intro W hSw; (try dsimp only at hSw); go_simp)
     try simp only [Act.put, List.setIfInBounds_toArray, List.set_cons_zero, List.set_cons_succ]
     refine rd1 10 fun K4 hK4 => ?_
     ·rw [if_pos (by rfl)]
      go_simp
      refine hK4.out _ _ (HSo.o _ (HB3.o.alloc HB3.o.size _)) (fun _ => ?_)
      obtain ⟨V4, hV9, HZ4, HB4, hb9⟩ : ∃ Z9, Z9 = V3.alloc (.cells #[.slice none 0 0, .slice none 0 0, .slice none 0 0, .slice none 0 0] 77) /\ Hid (Blk Z9 V3.heap.size 77 [.slice none 0 0, .slice none 0 0, .slice none 0 0, .slice none 0 0]) /\ Hid (Below w0.heap.size w0 Z9) /\ Below V3.heap.size V3 Z9 := ⟨_, rfl, Blk.new _ _ _, HB3.o.alloc HB3.o.size _, (Below.refl _ _).alloc (Nat.le_refl _) _⟩
      rw [<- hV9]
      clear hV9
      obtain ⟨gt, hgte⟩ : ∃ gt, gt = V3.heap.size := ⟨_, rfl⟩
      rw [<- hgte] at HZ4 ⊢
      have hgt : w0.heap.size <= gt := by rw [hgte]; exact HB3.o.size
      clear hgte
      have HRw4 := Lh (HRw3.o.on hb9)
      have hlw3 := HRw3.o.lt
      have hsw3 := hb9.size
      have HRr4 := Lh (HRr3.o.on hb9)
      have hlr3 := HRr3.o.lt
      have hsr3 := hb9.size
      have HRp4 := Lh (HRp3.o.on hb9)
      have hlp3 := HRp3.o.lt
      have hsp3 := hb9.size
      clear hb9
      refine rd 11 fun K5 hK5 => ?_
      have hx := HZ4.o
      refine wp_store_row _ _ _ rfl gt #[.slice (some ⟨gw, 0, none⟩) nw kw, .slice (some ⟨gr, 0, none⟩) n kr, .slice (some ⟨gp, 0, none⟩) n kp, .slice none 0 0] rfl rfl 77 _ hx size_lst rfl (lst_one _ _ _ _ _ _ _ _ _ _ _ _) ?_
      refine hK5.out _ _ (HSo.o _ (rowB HB4.o hgt)) (fun _ => ?_)
      refine wpAnyH_done (by kernel_rfl) ?_ _
      go_wp2_with fail
      go_meet
      exact ⟨gt, rfl, _, _, _, _, _, _, CpyQ.mk' HB4.o hx HRw4.o HRr4.o HRp4.o (by omega) ⟨hgt, hgw, hgr, hgp⟩⟩
    ·rw [if_pos (by rfl)]
     go_simp
     refine hK3.out _ _ (HSo.o _ (HB2.o.alloc HB2.o.size _)) (fun _ => ?_)
     obtain ⟨V3, hV9, HZ3, HB3, hb9⟩ : ∃ Z9, Z9 = V2.alloc (.cells #[.slice none 0 0, .slice none 0 0, .slice none 0 0, .slice none 0 0] 77) /\ Hid (Blk Z9 V2.heap.size 77 [.slice none 0 0, .slice none 0 0, .slice none 0 0, .slice none 0 0]) /\ Hid (Below w0.heap.size w0 Z9) /\ Below V2.heap.size V2 Z9 := ⟨_, rfl, Blk.new _ _ _, HB2.o.alloc HB2.o.size _, (Below.refl _ _).alloc (Nat.le_refl _) _⟩
     rw [<- hV9]
     clear hV9
     obtain ⟨gt, hgte⟩ : ∃ gt, gt = V2.heap.size := ⟨_, rfl⟩
     rw [<- hgte] at HZ3 ⊢
     have hgt : w0.heap.size <= gt := by rw [hgte]; exact HB2.o.size
     clear hgte
     have HRw3 := Lh (HRw2.o.on hb9)
     have hlw2 := HRw2.o.lt
     have hsw2 := hb9.size
     have HRr3 := Lh (HRr2.o.on hb9)
     have hlr2 := HRr2.o.lt
     have hsr2 := hb9.size
     clear hb9
     refine rd1 8 fun K4 hK4 => ?_
     ·rw [if_pos (by rfl)]
      go_simp
      go_at_call 55
      refine (HCp.o _ HB3.o).mono ?_
      rintro e V4 ⟨gp, kp, rfl, hgp0, hR9, hb9⟩
      have HB4 := Lh (Below.step9 HB3.o hb9 (Nat.le_refl w0.heap.size))
      have HRp4 := Lh hR9
      have hgp : w0.heap.size <= gp := Nat.le_trans HB3.o.size hgp0
      have HRw4 := Lh (HRw3.o.on hb9)
      have hlw3 := HRw3.o.lt
      have HRr4 := Lh (HRr3.o.on hb9)
      have hlr3 := HRr3.o.lt
      have HZ4 := Lh (HZ3.o.below hb9 HZ3.o.lt)
      clear hR9 hb9
      refine hK4.out _ _ (HSo.o _ HB4.o) (fun _ => ?_)
      refine tkF 9 (v := .agg #[.slice (some ⟨gw, 0, none⟩) nw kw, .slice (some ⟨gr, 0, none⟩) n kr, .slice (some ⟨gp, 0, none⟩) n kp, .slice none 0 0]) ?_ ?_ (hS := HSo.o _ HB4.o)
      ·(intro W hSw; (try dsimp only at hSw); go_simp)
      try simp only [Act.put, List.setIfInBounds_toArray, List.set_cons_zero, List.set_cons_succ]
      refine rd 11 fun K5 hK5 => ?_
      have hx := HZ4.o
      refine wp_store_row _ _ _ rfl gt #[.slice (some ⟨gw, 0, none⟩) nw kw, .slice (some ⟨gr, 0, none⟩) n kr, .slice (some ⟨gp, 0, none⟩) n kp, .slice none 0 0] rfl rfl 77 _ hx size_lst rfl (lst_one _ _ _ _ _ _ _ _ _ _ _ _) ?_
      refine hK5.out _ _ (HSo.o _ (rowB HB4.o hgt)) (fun _ => ?_)
      refine wpAnyH_done (by kernel_rfl) ?_ _
      go_wp2_with fail
      go_meet
      exact ⟨gt, rfl, _, _, _, _, _, _, CpyQ.mk' HB4.o hx HRw4.o HRr4.o HRp4.o (by omega) ⟨hgt, hgw, hgr, hgp⟩⟩
   ·rw [if_pos (by rfl)]
    go_simp
    refine hK2.out _ _ (HSo.o _ (HB1.o.alloc HB1.o.size _)) (fun _ => ?_)
    obtain ⟨V2, hV9, HZ2, HB2, hb9⟩ : ∃ Z9, Z9 = V1.alloc (.cells #[.slice none 0 0, .slice none 0 0, .slice none 0 0, .slice none 0 0] 77) /\ Hid (Blk Z9 V1.heap.size 77 [.slice none 0 0, .slice none 0 0, .slice none 0 0, .slice none 0 0]) /\ Hid (Below w0.heap.size w0 Z9) /\ Below V1.heap.size V1 Z9 := ⟨_, rfl, Blk.new _ _ _, HB1.o.alloc HB1.o.size _, (Below.refl _ _).alloc (Nat.le_refl _) _⟩
    rw [<- hV9]
    clear hV9
    obtain ⟨gt, hgte⟩ : ∃ gt, gt = V1.heap.size := ⟨_, rfl⟩
    rw [<- hgte] at HZ2 ⊢
    have hgt : w0.heap.size <= gt := by rw [hgte]; exact HB1.o.size
    clear hgte
    have HRw2 := Lh (HRw1.o.on hb9)
    have hlw1 := HRw1.o.lt
    have hsw1 := hb9.size
    clear hb9
    refine rd1 5 fun K3 hK3 => ?_
    ·rw [if_pos (by rfl)]
     go_simp
     go_at_call 75
     refine (HCr.o _ HB2.o).mono ?_
     rintro e V3 ⟨gr, kr, rfl, hgr0, hR9, hb9⟩
     have HB3 := Lh (Below.step9 HB2.o hb9 (Nat.le_refl w0.heap.size))
     have HRr3 := Lh hR9
     have hgr : w0.heap.size <= gr := Nat.le_trans HB2.o.size hgr0
     have HRw3 := Lh (HRw2.o.on hb9)
     have hlw2 := HRw2.o.lt
     have HZ3 := Lh (HZ2.o.below hb9 HZ2.o.lt)
     clear hR9 hb9
     refine hK3.out _ _ (HSo.o _ HB3.o) (fun _ => ?_)
     refine rd1 8 fun K4 hK4 => ?_
     ·rw [if_pos (by rfl)]
      go_simp
      go_at_call 55
      refine (HCp.o _ HB3.o).mono ?_
      rintro e V4 ⟨gp, kp, rfl, hgp0, hR9, hb9⟩
      have HB4 := Lh (Below.step9 HB3.o hb9 (Nat.le_refl w0.heap.size))
      have HRp4 := Lh hR9
      have hgp : w0.heap.size <= gp := Nat.le_trans HB3.o.size hgp0
      have HRw4 := Lh (HRw3.o.on hb9)
      have hlw3 := HRw3.o.lt
      have HRr4 := Lh (HRr3.o.on hb9)
      have hlr3 := HRr3.o.lt
      have HZ4 := Lh (HZ3.o.below hb9 HZ3.o.lt)
      clear hR9 hb9
      refine hK4.out _ _ (HSo.o _ HB4.o) (fun _ => ?_)
      refine tkF 9 (v := .agg #[.slice (some ⟨gw, 0, none⟩) nw kw, .slice (some ⟨gr, 0, none⟩) n kr, .slice (some ⟨gp, 0, none⟩) n kp, .slice none 0 0]) ?_ ?_ (hS := HSo.o _ HB4.o)
      ·(intro W hSw; (try dsimp only at hSw); go_simp)
      try simp only [Act.put, List.setIfInBounds_toArray, List.set_cons_zero, List.set_cons_succ]
      refine rd 11 fun K5 hK5 => ?_
      have hx := HZ4.o
      refine wp_store_row _ _ _ rfl gt #[.slice (some ⟨gw, 0, none⟩) nw kw, .slice (some ⟨gr, 0, none⟩) n kr, .slice (some ⟨gp, 0, none⟩) n kp, .slice none 0 0] rfl rfl 77 _ hx size_lst rfl (lst_one _ _ _ _ _ _ _ _ _ _ _ _) ?_
      refine hK5.out _ _ (HSo.o _ (rowB HB4.o hgt)) (fun _ => ?_)
      refine wpAnyH_done (by kernel_rfl) ?_ _
      go_wp2_with fail
      go_meet
      exact ⟨gt, rfl, _, _, _, _, _, _, CpyQ.mk' HB4.o hx HRw4.o HRr4.o HRp4.o (by omega) ⟨hgt, hgw, hgr, hgp⟩⟩
  ·rw [if_pos (by rfl)]
   go_simp
   refine hK1.out _ _ (HSo.o _ (HB0'.o.alloc HB0'.o.size _)) (fun _ => ?_)
   obtain ⟨V1, hV9, HZ1, HB1, hb9⟩ : ∃ Z9, Z9 = V0.alloc (.cells #[.slice none 0 0, .slice none 0 0, .slice none 0 0, .slice none 0 0] 77) /\ Hid (Blk Z9 V0.heap.size 77 [.slice none 0 0, .slice none 0 0, .slice none 0 0, .slice none 0 0]) /\ Hid (Below w0.heap.size w0 Z9) /\ Below V0.heap.size V0 Z9 := ⟨_, rfl, Blk.new _ _ _, HB0'.o.alloc HB0'.o.size _, (Below.refl _ _).alloc (Nat.le_refl _) _⟩
   rw [<- hV9]
   clear hV9
   obtain ⟨gt, hgte⟩ : ∃ gt, gt = V0.heap.size := ⟨_, rfl⟩
   rw [<- hgte] at HZ1 ⊢
   have hgt : w0.heap.size <= gt := by rw [hgte]; exact HB0'.o.size
   clear hgte
   clear hb9
   refine rd1 2 fun K2 hK2 => ?_
   ·rw [if_pos (by rfl)]
    go_simp
    go_at_call 55
    refine (HCw.o _ HB1.o).mono ?_
    rintro e V2 ⟨gw, kw, rfl, hgw0, hR9, hb9⟩
    have HB2 := Lh (Below.step9 HB1.o hb9 (Nat.le_refl w0.heap.size))
    have HRw2 := Lh hR9
    have hgw : w0.heap.size <= gw := Nat.le_trans HB1.o.size hgw0
    have HZ2 := Lh (HZ1.o.below hb9 HZ1.o.lt)
    clear hR9 hb9
    refine hK2.out _ _ (HSo.o _ HB2.o) (fun _ => ?_)
    refine rd1 5 fun K3 hK3 => ?_
    ·rw [if_pos (by rfl)]
     go_simp
     go_at_call 75
     refine (HCr.o _ HB2.o).mono ?_
     rintro e V3 ⟨gr, kr, rfl, hgr0, hR9, hb9⟩
     have HB3 := Lh (Below.step9 HB2.o hb9 (Nat.le_refl w0.heap.size))
     have HRr3 := Lh hR9
     have hgr : w0.heap.size <= gr := Nat.le_trans HB2.o.size hgr0
     have HRw3 := Lh (HRw2.o.on hb9)
     have hlw2 := HRw2.o.lt
     have HZ3 := Lh (HZ2.o.below hb9 HZ2.o.lt)
     clear hR9 hb9
     refine hK3.out _ _ (HSo.o _ HB3.o) (fun _ => ?_)
     refine rd1 8 fun K4 hK4 => ?_
     ·rw [if_pos (by rfl)]
      go_simp
      go_at_call 55
      refine (HCp.o _ HB3.o).mono ?_
      rintro e V4 ⟨gp, kp, rfl, hgp0, hR9, hb9⟩
      have HB4 := Lh (Below.step9 HB3.o hb9 (Nat.le_refl w0.heap.size))
      have HRp4 := Lh hR9
      have hgp : w0.heap.size <= gp := Nat.le_trans HB3.o.size hgp0
      have HRw4 := Lh (HRw3.o.on hb9)
      have hlw3 := HRw3.o.lt
      have HRr4 := Lh (HRr3.o.on hb9)
      have hlr3 := HRr3.o.lt
      have HZ4 := Lh (HZ3.o.below hb9 HZ3.o.lt)
      clear hR9 hb9
      refine hK4.out _ _ (HSo.o _ HB4.o) (fun _ => ?_)
      refine tkF 9 (v := .agg #[.slice (some ⟨gw, 0, none⟩) nw kw, .slice (some ⟨gr, 0, none⟩) n kr, .slice (some ⟨gp, 0, none⟩) n kp, .slice none 0 0]) ?_ ?_ (hS := HSo.o _ HB4.o)
      ·(intro W hSw; (try dsimp only at hSw); go_simp)
      try simp only [Act.put, List.setIfInBounds_toArray, List.set_cons_zero, List.set_cons_succ]
      refine rd 11 fun K5 hK5 => ?_
      have hx := HZ4.o
      refine wp_store_row _ _ _ rfl gt #[.slice (some ⟨gw, 0, none⟩) nw kw, .slice (some ⟨gr, 0, none⟩) n kr, .slice (some ⟨gp, 0, none⟩) n kp, .slice none 0 0] rfl rfl 77 _ hx size_lst rfl (lst_one _ _ _ _ _ _ _ _ _ _ _ _) ?_
      refine hK5.out _ _ (HSo.o _ (rowB HB4.o hgt)) (fun _ => ?_)
      refine wpAnyH_done (by kernel_rfl) ?_ _
      go_wp2_with fail
      go_meet
      exact ⟨gt, rfl, _, _, _, _, _, _, CpyQ.mk' HB4.o hx HRw4.o HRr4.o HRp4.o (by omega) ⟨hgt, hgw, hgr, hgp⟩⟩
 case rest =>
  obtain ⟨gt, rfl, HC⟩ := hcut
  obtain ⟨gw, kw, gr, kr, gp, kp, hc⟩ := HC.o
  obtain ⟨wd, rfl⟩ : ∃ wd : World, wd = wc := ⟨_, rfl⟩
  have b3 := (HB0.o.below hc.bel HB0.o.lt).cell (i := 3) rfl
  have HCd := Lh hc
  clear hc HC HCw HCr HCp HSo
  obtain ⟨i1, hi1, hi1z, hi1s, hi1b⟩ := info_parts info_pend
  have hbl := HS0.o.blen
  go_wp2_with fail
  clear b3
  go_loopg [19] n (fun gk i wr => ∃ (j : Nat) (bv : Value) (ds : List Bf), j + gk = n /\ i = .int .i64 j /\ ds.map (·.q) = (bs.map (·.q)).take j /\ Hid (NilB bs ds) /\ Hid (CpyQ w0 n nw S gt gw kw gr kr gp kp bv j ds wr))
  case atStart => exact ⟨0, _, [], by omega, rfl, by simp, Lh (fun _ y hy => by cases hy), HCd⟩
  case round =>
   obtain ⟨j, bv, ds, hj, rfl, hds, HNi, HI⟩ := hrel
   by_cases hlt : j < n
   ·have e1 : (j : Int) < n := by omega
    have e0 : (0 : Int) <= j := by omega
    obtain ⟨x, hx⟩ := at_lt (show j < bs.length by omega)
    have hSr := HS0.o.on HI.o.bel
    have c1 : wr.cell? ⟨h.gb, j, none⟩ = some (.slice x.hd.1 x.hd.2.1 x.hd.2.2) := hSr.bufc hx
    have hcl := cloQ_any x wr.drew (HSq.o x (List.mem_of_getElem? hx)).1 ((hSr.own x (List.mem_of_getElem? hx)).2.below ((Below.refl _ _).drew)) (HSq.o x (List.mem_of_getElem? hx)).2
    have HCl := Lh hcl
    have hdn : ds.map (·.q) ++ [x.q] = (bs.map (·.q)).take (j + 1) := by
     rw [hds, take_snoc (x := x.q)]
     rw [List.getElem?_map, hx]
     rfl
    have HX9 := Lh hx
    clear hSr hcl
    obtain ⟨A, kb, hbv, hk1, hk2⟩ := own_form HI.o.b
    subst hbv
    have b0 := HI.o.t.cell (i := 3) rfl
    have bf := HI.o.t.frozen 3
    have hbz := HI.o.bel.size
    unfold maxLen at hk2
    go_upto_region 5 with fail
    go_region_law (first
      | (rw [if_pos (by rfl)]; go_simp; go_at_call 76; refine (HCl.o).mono ?_; rintro e w3 ⟨A2, k2, rfl, ho3, hb3, hnl⟩
         have HNl := Lh hnl
         have HO3 := Lh ho3
         have HB3 := Lh ((Below.refl wr.heap.size wr).drew.trans hb3)
         have hsz3 := HB3.o.size
         have HI3 : Hid (CpyQ w0 n nw S gt gw kw gr kr gp kp (.slice A j kb) j ds w3) := HI.o.on HB3.o
         have d3 := HI3.o.t.cell (i := 3) rfl
         have d4 : (w3.alloc (.cells #[.slice A2 x.q.length k2] 161)).cell? ⟨gt, 3, none⟩ = some (.slice A j kb) := (HI3.o.t.alloc _).cell rfl
         clear ho3 hb3 hnl)
      | (go_must (refine step_app _ (by rfl) _ _ 75 (by rfl) w0.heap.size 161 i1 (.slice none 0 0) 1 24 Tryz.underlying75 hi1 hi1z hi1s hi1b rfl (by decide) (.slice A j kb) j (ds.map fun x => hdV x.hd) (by rfl) (HI3.o.b.alloc _) (w3.heap.size + 1) (some ⟨w3.heap.size, 0, none⟩) 1 1 [.slice A2 x.q.length k2] (by rfl) (((Blk.new w3 161 _).sl rfl).up (by simp)) (by intro u hu; simp at hu; subst hu; rfl) (j + 1) rfl _ rfl _ rfl (by simp only [maxLen]; omega) (by omega) (by simp; omega) ?_)
         intro A10 k10 W10 hown10 hg10 hat10 hk10 hk11
         have hB10 := (HI3.o.t.alloc (.cells #[.slice A2 x.q.length k2] 161)).grown hg10 (own_nb HI3.o.b HI3.o.t (by decide))
         have d0 := hB10.cell (i := 3) rfl
         have df := hB10.frozen 3))
    all_goals (
     go_wp2_with fail
     go_roundg (gk - 1)
     case measure => omega
     case rel => exact ⟨j + 1, _, _, by omega, by go_num, (by rw [List.map_append]; exact hdn), Lh (HNi.o.next (List.mem_of_getElem? HX9.o) HNl.o), HI.o.next (HB3.o.alloc HB3.o.size (.cells #[.slice A2 x.q.length k2] 161)) (HO3.o.alloc _) hg10 hown10⟩)
   ·obtain rfl : j = n := by omega
    obtain ⟨A, kb, hbv, hk1, hk2⟩ := own_form HI.o.b
    subst hbv
    obtain ⟨gb, hgb, hB, hR⟩ := Rw.of_own HI.o.b (by omega)
    subst hgb
    have hzd := HI.o.bel.size
    have HZ9 := Lh (HZ0.o.below HI.o.bel HZ0.o.lt)
    have hT := HI.o.t
    have HR9 := Lh hR
    clear hR
    go_upto_region 7 with fail
    refine wp_region_lit ?_
    refine wpList_load_row rfl _ _ rfl gt rfl 77 _ (0, 0) _ hT Tryz.underlying77 rfl size_lst ?_
    refine wpList_store_row rfl _ _ _ rfl (w.heap.size + 1) _ rfl rfl _ _ HZ9.o size_lst rfl (lst_one _ _ _ _ _ _ _ _ _ _ _ _) ?_
    have HR := Lh (setRow_heap wr (w.heap.size + 1) _ (stL ⟨gw, kw, gr, kr, gp, kp, gb, kb⟩ j nw).toArray _ _ HZ9.o)
    have HG := HI.o.ge
    go_wp2_with fail
    refine bodyPost_ret_by (results_cell_row rfl _ _ (w.heap.size + 1) 77 _ (0, 0) _ rfl HR.o Tryz.underlying77 rfl size_lst) rfl ?_
    have hT2 : ∀ x ∈ ds, ∀ g, x.blk = some g -> w0.heap.size <= g := fun x hx g hg => ((HI.o.own x hx).2.lt g hg).1
    refine ⟨⟨gw, kw, gr, kr, gp, kp, gb, kb⟩, ds, rfl, ⟨⟨by dsimp only; omega, by dsimp only; omega, by dsimp only; omega, by dsimp only; omega⟩, fun x hx g hg => by have := hT2 x hx g hg; omega⟩, ⟨HI.o.w.kept (rowK (by omega)), HI.o.r.kept (rowK (by omega)), HI.o.p.kept (rowK (by omega)), HR9.o.kept (rowK (by omega)), fun x hx => ⟨(HI.o.own x hx).1, ?_⟩, HI.o.far, ?_⟩, ?_, rowB (HW0.o.trans (HI.o.bel.mono (by omega))) (by omega), HNi.o⟩
    ·refine own_low (own_kept (HI.o.own x hx).2 HZ9.o (by decide) (fun q _ hq => rowK hq)) (Nat.zero_le _)
    ·obtain ⟨n1, n2, n3⟩ := HI.o.ne
     have m1 := own_nr HI.o.b HI.o.w (by decide)
     have m2 := own_nr HI.o.b HI.o.r (by decide)
     have m3 := own_nr HI.o.b HI.o.p (by decide)
     exact ⟨n1, n2, fun e => m1 (by have e' : gw = gb := e; rw [e']; rfl), n3, fun e => m2 (by have e' : gr = gb := e; rw [e']; rfl), fun e => m3 (by have e' : gp = gb := e; rw [e']; rfl)⟩
    ·rw [hds, List.take_of_length_le (by rw [List.length_map]; omega)]
end Go.Proofs.YtgjdgapfnfhklaaGreat
