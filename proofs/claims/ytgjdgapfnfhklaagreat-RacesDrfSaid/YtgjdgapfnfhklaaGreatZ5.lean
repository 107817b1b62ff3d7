/-
A state in new memory, and a copy of it under way: empty buf
-/
import Derived.Test.YtgjdgapfnfhklaaGreatQcp
import Derived.Test.YtgjdgapfnfhklaaGreatZ24
import Derived.Test.YtgjdgapfnfhklaaGreatZ23
import Derived.Test.YtgjdgapfnfhklaaGreatRst
import Derived.Deep.RegionLaw
import Derived.Test.YtgjdgapfnfhklaaGreatZ25
import Derived.Test.YtgjdgapfnfhklaaGreatBeg
set_option linter.unusedSimpArgs false
set_option linter.unusedVariables false
set_option maxRecDepth 100000
set_option maxHeartbeats 16000000
namespace Go.Proofs.YtgjdgapfnfhklaaGreat
open Go.RowKit
def CpdR (n nw : Nat) (S : LS) (w : World) (e : Ending) (w' : World) : Prop := ∃ h', e = .returned (stV h' n nw) /\ NewS w.heap.size h' /\ StAt w' h' n nw S /\ Below w.heap.size w w'
structure Cpy (w0 : World) (n nw : Nat) (S : LS) (gt gw kw gr kr gp kp : Nat) (bv : Value) (j : Nat) (W : World) : Prop where
 bel : Below w0.heap.size w0 W
 t : Blk W gt 77 [.slice (some ⟨gw, 0, none⟩) nw kw, .slice (some ⟨gr, 0, none⟩) n kr, .slice (some ⟨gp, 0, none⟩) n kp, bv]
 w : Rw W gw 3 1 nw kw (ints S.ws)
 r : Rw W gr 96 4 n kr (ints S.rs)
 p : Rw W gp 3 1 n kp (natsI S.ps)
 b : W.ownsRow w0.heap.size 161 1 bv j (List.replicate j (.slice none 0 0))
 ne : gw ≠ gr /\ gw ≠ gp /\ gr ≠ gp
 ge : w0.heap.size <= gt /\ w0.heap.size <= gw /\ w0.heap.size <= gr /\ w0.heap.size <= gp
theorem rep_snoc {α : Type} (j : Nat) (z : α) : List.replicate j z ++ [z] = List.replicate (j + 1) z := List.replicate_succ'.symm
theorem one_nil : ∀ u ∈ [Value.slice none 0 0], u.oneCell' = true := by decide
theorem Cpy.next {w0 W W1 W2 : World} {n nw : Nat} {S : LS} {gt gw kw gr kr gp kp j k : Nat} {A : Option Addr} {bv : Value} (h : Cpy w0 n nw S gt gw kw gr kr gp kp bv j W) (hb : Below W.heap.size W W1) (hg : W1.grownBy W2 bv.ownBlock)
  (ho : W2.ownsRow w0.heap.size 161 1 (.slice A (j + 1) k) (j + 1) (List.replicate (j + 1) (.slice none 0 0))) : Cpy w0 n nw S gt gw kw gr kr gp kp (.slice A (j + 1) k) (j + 1) (W2.setCell ⟨gt, 3, none⟩ (.slice A (j + 1) k)) := by
 have t1 := (h.t.below hb h.t.lt).grown hg (own_nb h.b h.t (by decide))
 have w1 := (h.w.on hb).grown hg (own_nr h.b h.w (by decide))
 have r1 := (h.r.on hb).grown hg (own_nr h.b h.r (by decide))
 have p1 := (h.p.on hb).grown hg (own_nr h.b h.p (by decide))
 refine ⟨(((h.bel.trans (hb.mono h.bel.size)).grown hg (Nat.le_trans h.bel.size hb.size) (fun q hq => (h.b.lt q hq).1))).setCell (p := ⟨gt, 3, none⟩) h.ge.1 _, t1.set_ 3 _, w1.far (Ne.symm (w1.ne t1 (by decide))) _, r1.far (Ne.symm (r1.ne t1 (by decide))) _, p1.far (Ne.symm (p1.ne t1 (by decide))) _, own_far ho t1 (by decide), h.ne, h.ge⟩
def WkR (h : SH) (n nw : Nat) (S' : LS) (b : Bool) (W : World) (e : Ending) (W' : World) : Prop := e = .returned (.bool b) /\ StAt W' h n nw S' /\ Fr (SF h) W W'
end Go.Proofs.YtgjdgapfnfhklaaGreat
namespace Go.Proofs.YtgjdgapfnfhklaaGreat
open Go.RowKit
theorem natsI_one {l : List Nat} : ∀ u ∈ natsI l, u.oneCell' = true := by
 intro u hu
 obtain ⟨x, _, rfl⟩ := List.mem_map.1 hu
 rfl
theorem ints_oneF {l : List Int} : ∀ u ∈ ints l, u.oneCell' = true := by
 intro u hu
 obtain ⟨x, _, rfl⟩ := List.mem_map.1 hu
 rfl
theorem splice_at {α : Type} {p x r cs : List α} {k : Nat} (hp : p.length = k) (hc : cs.length <= x.length) : splice (p ++ (x ++ r)) k cs = p ++ ((cs ++ x.drop cs.length) ++ r) := by
 subst hp
 unfold splice
 rw [List.take_left', List.drop_append, List.drop_eq_nil_of_le (by omega), List.nil_append, show p.length + cs.length - p.length = cs.length by omega, List.drop_append_of_le_length hc, List.append_assoc]
 rfl
def FilR (gn : Nat) (h : SH) (n nw : Nat) (S : LS) (cs : List Value) (W : World) (e : Ending) (w' : World) : Prop := e = .returned (.tuple #[]) /\ Blk w' gn 105 cs /\ StAt w' h n nw S /\ Fr (fun g => g = gn) W w'
theorem size_int1 : (Tryz.prog.info? 3).map (·.size) = some 1 := by kernel_rfl
theorem size_reg4 : (Tryz.prog.info? 96).map (·.size) = some 4 := by kernel_rfl
theorem StAt.gn {W W' : World} {h : SH} {n nw gn : Nat} {S : LS} {cs : List Value} (s : StAt W h n nw S) (hb : Blk W gn 105 cs) (hk : ∀ k, k ≠ gn -> W'.heap[k]? = W.heap[k]?) : StAt W' h n nw S :=
 ⟨s.w.kept (hk _ (s.w.nb hb (by decide))), s.r.kept (hk _ (s.r.nb hb (by decide))), s.p.kept (hk _ (s.p.nb hb (by decide))), s.b.kept (hk _ (s.b.nb hb (by decide))), s.ne⟩
theorem add_cell {W : World} {g : Nat} {cs : List Value} (hc : ∀ j v, cs[j]? = some v -> W.cell? ⟨g, j, none⟩ = some v) : ∀ j v, cs[j]? = some v -> W.cell? ((⟨g, 0, none⟩ : Addr).add j) = some v := fun j v hv => by
 rw [Addr.add_mid, Nat.zero_add]
 exact hc j v hv
theorem fill_any (W : World) (gn : Nat) (h : SH) (n nw : Nat) (S : LS) (W6 R16 P4 rest : List Value) (hb : Blk W gn 105 (stL h n nw ++ (W6 ++ (R16 ++ (P4 ++ rest))))) (hs : StAt W h n nw S) (h6 : W6.length = 6) (h16 : R16.length = 16) (h4 : P4.length = 4) (hn : n <= 4) (hnw : nw <= 6) :
  Calls Tryz.prog 25 #[.pointer (some ⟨gn, 0, none⟩)] W (FilR gn h n nw S (stL h n nw ++ ((ints S.ws ++ W6.drop nw) ++ ((ints S.rs ++ R16.drop (n * 4)) ++ ((natsI S.ps ++ P4.drop n) ++ rest)))) W) := by
 have HB0 := Lh hb
 have HS0 := Lh hs
 have HF0 : Hid (Fr (fun g => g = gn) W W) := Fr.refl _ _
 clear hb hs
 have b6 : Int.toNat 6 = 6 := rfl
 go_enter Tryz.func25, Tryz.ntmps25
 have s0 := HB0.o.cell (i := 0) rfl
 have hl0 : (ints S.ws).length = nw * 1 := HS0.o.w.len
 have hf0 : (W6).length = 6 /\ (R16).length = 16 /\ (P4).length = 4 := ⟨h6, h16, h4⟩
 go_upto_region 0 with fail
 go_region_law ((refine step_copy_q (by rfl) _ _ 22 22 (by rfl) 3 1 nw Tryz.underlying22 size_int1 gn 4 6 6 ⟨h.gw, 0, none⟩ nw h.kw (by rfl) (by rfl) (stL h n nw ++ (W6 ++ (R16 ++ (P4 ++ rest)))) 105 (HB0.o) (ints S.ws) (by show min nw 6 = nw; omega) hl0 (add_cell (fun j v hv => HS0.o.w.cell hv)) (by simp only [List.length_append, hl0, hf0.1, hf0.2.1, hf0.2.2]; simp; omega) ints_oneF ?_; intro w1 hx1 hk1 hz1 ho1))
 have HB1 : Hid (Blk w1 gn 105 (stL h n nw ++ ((ints S.ws ++ W6.drop nw) ++ (R16 ++ (P4 ++ rest))))) := by
  have h9 := hx1.out
  have e9 : splice (stL h n nw ++ (W6 ++ (R16 ++ (P4 ++ rest)))) 4 (ints S.ws) = stL h n nw ++ ((ints S.ws ++ W6.drop nw) ++ (R16 ++ (P4 ++ rest))) := by
   have e8 := splice_at (p := stL h n nw) (x := W6) (r := R16 ++ (P4 ++ rest)) (cs := ints S.ws) (k := 4) rfl (by rw [hl0, h6]; omega)
   rw [hl0] at e8
   simp only [List.append_assoc, Nat.mul_one] at e8 ⊢
   exact e8
  rw [e9] at h9
  exact h9
 have HS1 := Lh (HS0.o.gn HB0.o (W' := w1) (fun k hk => hk1 k hk))
 have HF1 : Hid (Fr (fun g => g = gn) W w1) := HF0.o.trans ⟨ho1.1, ho1.2.1, ho1.2.2, by rw [hz1]; exact Nat.le_refl _, fun g _ hg => hk1 g hg⟩
 clear s0 hx1 hk1 hz1 ho1
 have s0 := HB1.o.cell (i := 1) rfl
 have hl1 : (ints S.rs).length = n * 4 := HS1.o.r.len
 have hf1 : ((ints S.ws ++ W6.drop nw)).length = 6 /\ (R16).length = 16 /\ (P4).length = 4 := ⟨by rw [List.length_append, List.length_drop, hl0, h6]; omega, h16, h4⟩
 go_upto_region 1 with fail
 go_region_law ((refine step_copy_q (by rfl) _ _ 40 40 (by rfl) 96 4 n Tryz.underlying40 size_reg4 gn 10 4 4 ⟨h.gr, 0, none⟩ n h.kr (by rfl) (by rfl) (stL h n nw ++ ((ints S.ws ++ W6.drop nw) ++ (R16 ++ (P4 ++ rest)))) 105 (HB1.o) (ints S.rs) (by show min n 4 = n; omega) hl1 (add_cell (fun j v hv => HS1.o.r.cell hv)) (by simp only [List.length_append, hl1, hf1.1, hf1.2.1, hf1.2.2]; simp; omega) ints_oneF ?_; intro w2 hx2 hk2 hz2 ho2))
 have HB2 : Hid (Blk w2 gn 105 (stL h n nw ++ ((ints S.ws ++ W6.drop nw) ++ ((ints S.rs ++ R16.drop (n * 4)) ++ (P4 ++ rest))))) := by
  have h9 := hx2.out
  have e9 : splice (stL h n nw ++ ((ints S.ws ++ W6.drop nw) ++ (R16 ++ (P4 ++ rest)))) 10 (ints S.rs) = stL h n nw ++ ((ints S.ws ++ W6.drop nw) ++ ((ints S.rs ++ R16.drop (n * 4)) ++ (P4 ++ rest))) := by
   have e8 := splice_at (p := stL h n nw ++ (ints S.ws ++ W6.drop nw)) (x := R16) (r := P4 ++ rest) (cs := ints S.rs) (k := 10) (by simp only [List.length_append, hf1.1, hf1.2.1]; rfl) (by rw [hl1, h16]; omega)
   rw [hl1] at e8
   simp only [List.append_assoc, Nat.mul_one] at e8 ⊢
   exact e8
  rw [e9] at h9
  exact h9
 have HS2 := Lh (HS1.o.gn HB1.o (W' := w2) (fun k hk => hk2 k hk))
 have HF2 : Hid (Fr (fun g => g = gn) W w2) := HF1.o.trans ⟨ho2.1, ho2.2.1, ho2.2.2, by rw [hz2]; exact Nat.le_refl _, fun g _ hg => hk2 g hg⟩
 clear s0 hx2 hk2 hz2 ho2
 have s0 := HB2.o.cell (i := 2) rfl
 have hl2 : (natsI S.ps).length = n * 1 := HS2.o.p.len
 have hf2 : ((ints S.ws ++ W6.drop nw)).length = 6 /\ ((ints S.rs ++ R16.drop (n * 4))).length = 16 /\ (P4).length = 4 := ⟨by rw [List.length_append, List.length_drop, hl0, h6]; omega, by rw [List.length_append, List.length_drop, hl1, h16]; omega, h4⟩
 go_upto_region 2 with fail
 go_region_law ((refine step_copy_q (by rfl) _ _ 22 22 (by rfl) 3 1 n Tryz.underlying22 size_int1 gn 26 4 4 ⟨h.gp, 0, none⟩ n h.kp (by rfl) (by rfl) (stL h n nw ++ ((ints S.ws ++ W6.drop nw) ++ ((ints S.rs ++ R16.drop (n * 4)) ++ (P4 ++ rest)))) 105 (HB2.o) (natsI S.ps) (by show min n 4 = n; omega) hl2 (add_cell (fun j v hv => HS2.o.p.cell hv)) (by simp only [List.length_append, hl2, hf2.1, hf2.2.1, hf2.2.2]; simp; omega) natsI_one ?_; intro w3 hx3 hk3 hz3 ho3))
 have HB3 : Hid (Blk w3 gn 105 (stL h n nw ++ ((ints S.ws ++ W6.drop nw) ++ ((ints S.rs ++ R16.drop (n * 4)) ++ ((natsI S.ps ++ P4.drop n) ++ rest))))) := by
  have h9 := hx3.out
  have e9 : splice (stL h n nw ++ ((ints S.ws ++ W6.drop nw) ++ ((ints S.rs ++ R16.drop (n * 4)) ++ (P4 ++ rest)))) 26 (natsI S.ps) = stL h n nw ++ ((ints S.ws ++ W6.drop nw) ++ ((ints S.rs ++ R16.drop (n * 4)) ++ ((natsI S.ps ++ P4.drop n) ++ rest))) := by
   have e8 := splice_at (p := stL h n nw ++ (ints S.ws ++ W6.drop nw) ++ (ints S.rs ++ R16.drop (n * 4))) (x := P4) (r := rest) (cs := natsI S.ps) (k := 26) (by simp only [List.length_append, hf2.1, hf2.2.1]; rfl) (by rw [hl2, h4]; omega)
   rw [hl2] at e8
   simp only [List.append_assoc, Nat.mul_one] at e8 ⊢
   exact e8
  rw [e9] at h9
  exact h9
 have HS3 := Lh (HS2.o.gn HB2.o (W' := w3) (fun k hk => hk3 k hk))
 have HF3 : Hid (Fr (fun g => g = gn) W w3) := HF2.o.trans ⟨ho3.1, ho3.2.1, ho3.2.2, by rw [hz3]; exact Nat.le_refl _, fun g _ hg => hk3 g hg⟩
 clear s0 hx3 hk3 hz3 ho3
 go_wp2_with fail
 go_end0
 exact ⟨rfl, HB3.o, HS3.o, HF3.o⟩
end Go.Proofs.YtgjdgapfnfhklaaGreat
namespace Go.Proofs.YtgjdgapfnfhklaaGreat
open Go.RowKit
theorem rbeg_end {l : Lit} {w w1 W : World} {gw kw gr gp gb : Nat} (hw : Below w.heap.size w w1) (hb : Below w1.heap.size w1 W) (hg : w.heap.size + 1 < w1.heap.size)
  (h1 : Rw W gw 3 1 l.wn kw (ints l.ws)) (h2 : Rw W gr 96 4 l.tn l.tn (ints (List.replicate (l.tn * 4) 0))) (h3 : Rw W gp 3 1 l.tn l.tn (natsI (List.replicate l.tn 0))) (h4 : Rw W gb 161 1 l.tn l.tn (List.replicate l.tn (.slice none 0 0)))
  (hne : gw ≠ gp) (ge : w.heap.size + 2 <= gw /\ w1.heap.size <= gr /\ w1.heap.size <= gp /\ w1.heap.size <= gb) :
  CpdR l.tn l.wn (firstS l) w (.returned (stV ⟨gw, kw, gr, l.tn, gp, l.tn, gb, l.tn⟩ l.tn l.wn)) (W.setRow (w.heap.size + 1) #[.slice (some ⟨gw, 0, none⟩) l.wn kw, .slice (some ⟨gr, 0, none⟩) l.tn l.tn, .slice (some ⟨gp, 0, none⟩) l.tn l.tn, .slice (some ⟨gb, 0, none⟩) l.tn l.tn]) := by
 have hne1 : gw ≠ gr := by
  obtain ⟨_, cs, c1, _⟩ := h2
  exact fun e => h1.ne c1 (by decide) e.symm
 have hne2 : gr ≠ gp := by
  obtain ⟨_, cs, c1, _⟩ := h3
  exact fun e => h2.ne c1 (by decide) e.symm
 have hb1 : gw ≠ gb := by
  obtain ⟨_, cs, c1, _⟩ := h4
  exact fun e => h1.ne c1 (by decide) e.symm
 have hb2 : gr ≠ gb := by
  obtain ⟨_, cs, c1, _⟩ := h4
  exact fun e => h2.ne c1 (by decide) e.symm
 have hb3 : gp ≠ gb := by
  obtain ⟨_, cs, c1, _⟩ := h4
  exact fun e => h3.ne c1 (by decide) e.symm
 have hs := hw.size
 exact ⟨⟨gw, kw, gr, l.tn, gp, l.tn, gb, l.tn⟩, rfl, ⟨by dsimp only; omega, Nat.le_trans hs ge.2.1, Nat.le_trans hs ge.2.2.1, Nat.le_trans hs ge.2.2.2⟩, ⟨h1.kept (rowK (by omega)), h2.kept (rowK (by omega)), h3.kept (rowK (by omega)), h4.kept (rowK (by omega)), ⟨hne1, hne, hb1, hne2, hb2, hb3⟩⟩, rowB (hw.trans (hb.mono hs)) (by omega)⟩
theorem rbegin_ok (l : Lit) (w : World) (h : LitAt w w.heap.size l) (hok : okLit l = true) :
  Calls Tryz.prog 46 #[litV l] w (CpdR l.tn l.wn (firstS l) w) := by
 obtain ⟨n1, n2, n3, n4⟩ := okLit_num hok
 obtain ⟨w0, hw0⟩ : ∃ w0 : World, w0 = (w.alloc (.cells #[.slice l.wA l.wn l.wk, .slice l.tA l.tn l.tk] 25)).alloc (.cells #[.slice none 0 0, .slice none 0 0, .slice none 0 0, .slice none 0 0] 77) := ⟨_, rfl⟩
 have HB0 : Hid (Blk w0 w.heap.size 25 (litL l)) := by rw [hw0]; exact (Blk.new w 25 (litL l)).alloc _
 have HZ0 : Hid (Blk w0 (w.heap.size + 1) 77 [.slice none 0 0, .slice none 0 0, .slice none 0 0, .slice none 0 0]) := by
  rw [hw0]
  have h9 := Blk.new (w.alloc (.cells #[.slice l.wA l.wn l.wk, .slice l.tA l.tn l.tk] 25)) 77 [.slice none 0 0, .slice none 0 0, .slice none 0 0, .slice none 0 0]
  rw [World.size_alloc] at h9
  exact h9
 have HW0 : Hid (Below w.heap.size w w0) := by rw [hw0]; exact ((Below.refl _ _).alloc (Nat.le_refl _) _).alloc (by simp) _
 have HL := Lh h
 have HWe := Lh hw0
 have hz0 : w.heap.size + 1 < w0.heap.size := HZ0.o.lt
 clear h hw0
 obtain ⟨i1, hi1, hi1z, hi1s, hi1b⟩ := info_parts info_int1
 obtain ⟨i2, hi2, hi2z, hi2s, hi2b⟩ := info_parts info_reg4
 obtain ⟨i3, hi3, hi3z, hi3s, hi3b⟩ := info_parts info_pend
 go_enter Tryz.func46, Tryz.ntmps46
 go_upto_region 1 with fail
 rw [<- HWe.o]
 clear HWe
 have q0 := HB0.o.cell (i := 0) rfl
 have q1 := HB0.o.cell (i := 1) rfl
 have hws := ((HL.o.keep HW0.o).ws.up HW0.o.size)
 go_upto_region 3 with fail
 go_upto_region 4 with (at_builtin; go_must (refine wpList_app0 _ rfl _ _ 22 rfl w0.heap.size 3 i1 (.int .i64 0) 1 8 Tryz.underlying22 hi1 hi1z hi1s hi1b rfl (by decide) _ rfl (World.ownsRow_nil _ _ _ _) _ l.wA l.wn l.wk (ints l.ws) rfl hws (ints_one' _) (by simp only [maxLen]; omega) (by omega) (Nat.le_refl _) ?_; intro A1 kw w1 hown1 hb1 hfr1 hk1 hk2))
 obtain ⟨gw, hgw, hgwB, hRw⟩ := Rw.of_own hown1 (by omega)
 subst hgw
 have HRw := Lh hRw
 have HW1 := Lh (HW0.o.trans (hb1.mono HW0.o.size))
 have HZ1 := Lh (HZ0.o.below hb1 HZ0.o.lt)
 have hz1 := hb1.size
 have hgl := HRw.o.lt
 clear hRw hown1 hb1 hfr1 hws q0 q1
 refine wp_region_held_drew (S := fun _ => True) (by kernel_rfl) trivial (fun hS => ?_)
 refine tkF 0 (v := ?_) ?_ ?_ (hS := trivial)
 rotate_left
 ·(intro W hSw; go_simp; try with_reducible rfl)
 try simp only [Act.put, List.setIfInBounds_toArray, List.set_cons_zero, List.set_cons_succ]
 refine tkF 1 (v := ?_) ?_ ?_ (hS := trivial)
 rotate_left
 ·(intro W hSw; go_simp; try with_reducible rfl)
 try simp only [Act.put, List.setIfInBounds_toArray, List.set_cons_zero, List.set_cons_succ]
 refine tkF 3 (v := ?_) ?_ ?_ (hS := trivial)
 rotate_left
 ·(intro W hSw; go_simp; try with_reducible rfl)
 try simp only [Act.put, List.setIfInBounds_toArray, List.set_cons_zero, List.set_cons_succ]
 refine tkF 5 (v := ?_) ?_ ?_ (hS := trivial)
 rotate_left
 ·(intro W hSw; go_simp; try with_reducible rfl)
 try simp only [Act.put, List.setIfInBounds_toArray, List.set_cons_zero, List.set_cons_succ]
 obtain ⟨V0, hV9, HB0'⟩ : ∃ Z9, Z9 = w1.drew /\ Hid (Below w1.heap.size w1 Z9) := ⟨_, rfl, (Below.refl _ _).drew⟩
 rw [<- hV9]
 clear hV9
 have hn : 0 < l.tn /\ l.tn <= 1024 := ⟨by omega, by omega⟩
 have hIr : MkI 40 96 4 l.tn (ints (List.replicate (l.tn * 4) 0)) := ⟨i2, _, Tryz.underlying40, hi2, hi2z, hi2s, by rw [hi2b]; omega, made_reg _ n2⟩
 have hIp : MkI 22 3 1 l.tn (natsI (List.replicate l.tn 0)) := ⟨i1, _, Tryz.underlying22, hi1, hi1z, hi1s, by rw [hi1b]; omega, made_int _⟩
 have hIb : MkI 75 161 1 l.tn (List.replicate l.tn (.slice none 0 0)) := ⟨i3, _, Tryz.underlying75, hi3, hi3z, hi3s, by rw [hi3b]; omega, made_nil _⟩
 refine rw3 2 4 6 (fun K1 hK1 => ?ar) (fun K1 hK1 => ?ap) (fun K1 hK1 => ?ab)
 case' ar =>
  refine mk_rw hIr hn fun V1 gr hgr hb1 hRr => ?_
  have HB1 := Lh (b9 HB0'.o hb1)
  refine hK1.out _ _ trivial (fun _ => ?_)
  refine rw2 4 6 (fun K2 hK2 => ?arp) (fun K2 hK2 => ?arb)
  case' arp =>
   refine mk_rw hIp hn fun V2 gp hgp hb2 hRp => ?_
   have HB2 := Lh (b9 HB1.o hb2)
   refine hK2.out _ _ trivial (fun _ => ?_)
   refine rw1 6 fun K3 hK3 => ?_
   refine mk_rw hIb hn fun V3 gb hgb hb3 hRb => ?_
   have HB3 := Lh (b9 HB2.o hb3)
   refine hK3.out _ _ trivial (fun _ => ?_)
   have HRr := Lh (((hRr.on hb2).on hb3))
   have HRp := Lh ((hRp.on hb3))
   have HRb := Lh (hRb)
  case' arb =>
   refine mk_rw hIb hn fun V2 gb hgb hb2 hRb => ?_
   have HB2 := Lh (b9 HB1.o hb2)
   refine hK2.out _ _ trivial (fun _ => ?_)
   refine rw1 4 fun K3 hK3 => ?_
   refine mk_rw hIp hn fun V3 gp hgp hb3 hRp => ?_
   have HB3 := Lh (b9 HB2.o hb3)
   refine hK3.out _ _ trivial (fun _ => ?_)
   have HRr := Lh (((hRr.on hb2).on hb3))
   have HRb := Lh ((hRb.on hb3))
   have HRp := Lh (hRp)
 case' ap =>
  refine mk_rw hIp hn fun V1 gp hgp hb1 hRp => ?_
  have HB1 := Lh (b9 HB0'.o hb1)
  refine hK1.out _ _ trivial (fun _ => ?_)
  refine rw2 2 6 (fun K2 hK2 => ?apr) (fun K2 hK2 => ?apb)
  case' apr =>
   refine mk_rw hIr hn fun V2 gr hgr hb2 hRr => ?_
   have HB2 := Lh (b9 HB1.o hb2)
   refine hK2.out _ _ trivial (fun _ => ?_)
   refine rw1 6 fun K3 hK3 => ?_
   refine mk_rw hIb hn fun V3 gb hgb hb3 hRb => ?_
   have HB3 := Lh (b9 HB2.o hb3)
   refine hK3.out _ _ trivial (fun _ => ?_)
   have HRp := Lh (((hRp.on hb2).on hb3))
   have HRr := Lh ((hRr.on hb3))
   have HRb := Lh (hRb)
  case' apb =>
   refine mk_rw hIb hn fun V2 gb hgb hb2 hRb => ?_
   have HB2 := Lh (b9 HB1.o hb2)
   refine hK2.out _ _ trivial (fun _ => ?_)
   refine rw1 2 fun K3 hK3 => ?_
   refine mk_rw hIr hn fun V3 gr hgr hb3 hRr => ?_
   have HB3 := Lh (b9 HB2.o hb3)
   refine hK3.out _ _ trivial (fun _ => ?_)
   have HRp := Lh (((hRp.on hb2).on hb3))
   have HRb := Lh ((hRb.on hb3))
   have HRr := Lh (hRr)
 case' ab =>
  refine mk_rw hIb hn fun V1 gb hgb hb1 hRb => ?_
  have HB1 := Lh (b9 HB0'.o hb1)
  refine hK1.out _ _ trivial (fun _ => ?_)
  refine rw2 2 4 (fun K2 hK2 => ?abr) (fun K2 hK2 => ?abp)
  case' abr =>
   refine mk_rw hIr hn fun V2 gr hgr hb2 hRr => ?_
   have HB2 := Lh (b9 HB1.o hb2)
   refine hK2.out _ _ trivial (fun _ => ?_)
   refine rw1 4 fun K3 hK3 => ?_
   refine mk_rw hIp hn fun V3 gp hgp hb3 hRp => ?_
   have HB3 := Lh (b9 HB2.o hb3)
   refine hK3.out _ _ trivial (fun _ => ?_)
   have HRb := Lh (((hRb.on hb2).on hb3))
   have HRr := Lh ((hRr.on hb3))
   have HRp := Lh (hRp)
  case' abp =>
   refine mk_rw hIp hn fun V2 gp hgp hb2 hRp => ?_
   have HB2 := Lh (b9 HB1.o hb2)
   refine hK2.out _ _ trivial (fun _ => ?_)
   refine rw1 2 fun K3 hK3 => ?_
   refine mk_rw hIr hn fun V3 gr hgr hb3 hRr => ?_
   have HB3 := Lh (b9 HB2.o hb3)
   refine hK3.out _ _ trivial (fun _ => ?_)
   have HRb := Lh (((hRb.on hb2).on hb3))
   have HRp := Lh ((hRp.on hb3))
   have HRr := Lh (hRr)
 all_goals (
  have z0 := HB0'.o.size
  have z1 := HB1.o.size
  have z2 := HB2.o.size
  have hlw := (HRw.o.on HB3.o).lt
  have hlr := HRr.o.lt
  have hlp := HRp.o.lt
  refine tkF 7 (v := .agg #[.slice (some ⟨gw, 0, none⟩) l.wn kw, .slice (some ⟨gr, 0, none⟩) l.tn l.tn, .slice (some ⟨gp, 0, none⟩) l.tn l.tn, .slice (some ⟨gb, 0, none⟩) l.tn l.tn]) ?_ ?_ (hS := trivial)
  ·(intro W hSw; go_simp)
  try simp only [Act.put, List.setIfInBounds_toArray, List.set_cons_zero, List.set_cons_succ]
  refine rw1 8 fun K4 hK4 => ?_
  have hx := HZ1.o.below HB3.o (by omega)
  refine st_w _ _ _ rfl (w.heap.size + 1) #[.slice (some ⟨gw, 0, none⟩) l.wn kw, .slice (some ⟨gr, 0, none⟩) l.tn l.tn, .slice (some ⟨gp, 0, none⟩) l.tn l.tn, .slice (some ⟨gb, 0, none⟩) l.tn l.tn] rfl rfl 77 _ hx size_lst rfl (lst_one _ _ _ _ _ _ _ _ _ _ _ _) ?_
  refine hK4.out _ _ trivial (fun _ => ?_)
  refine wpAnyH_done (by kernel_rfl) ?_ _
  have HR := Lh (setRow_heap V3 (w.heap.size + 1) _ (#[.slice (some ⟨gw, 0, none⟩) l.wn kw, .slice (some ⟨gr, 0, none⟩) l.tn l.tn, .slice (some ⟨gp, 0, none⟩) l.tn l.tn, .slice (some ⟨gb, 0, none⟩) l.tn l.tn]) _ _ hx)
  have HE := Lh (rbeg_end HW1.o HB3.o (by omega) (HRw.o.on HB3.o) HRr.o HRp.o HRb.o (by omega) ⟨by omega, by omega, by omega, by omega⟩)
  go_wp2_with fail
  refine bodyPost_ret_by (results_cell_row rfl _ _ (w.heap.size + 1) 77 _ (0, 0) _ rfl HR.o Tryz.underlying77 rfl size_lst) rfl ?_
  exact HE.o)
end Go.Proofs.YtgjdgapfnfhklaaGreat
