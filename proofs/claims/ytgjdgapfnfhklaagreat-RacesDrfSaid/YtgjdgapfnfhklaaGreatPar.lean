/-
races.Pairs.
-/
import Derived.Test.YtgjdgapfnfhklaaGreatEvs
import Derived.Test.YtgjdgapfnfhklaaGreatTick
import Derived.Test.YtgjdgapfnfhklaaGreatZ20
set_option linter.unusedSimpArgs false
set_option linter.unusedVariables false
set_option maxRecDepth 100000
set_option maxHeartbeats 8000000
namespace Go.Proofs.YtgjdgapfnfhklaaGreat
open Go.RowKit
theorem info_ck : (Tryz.prog.info? 96).map (fun i => (i.zero, i.size, i.bytes)) = some (some (.agg #[.int .i64 0, .int .i64 0, .int .i64 0, .int .i64 0]), 4, 32) := by kernel_rfl
theorem info_rc : (Tryz.prog.info? 60).map (fun i => (i.zero, i.size, i.bytes)) = some (some (.agg #[.int .i64 0, .int .i64 0, .int .i64 0]), 3, 24) := by kernel_rfl
def candB (a b : Ev) : Bool := decide (a.a = b.a) && (!decide (a.t = b.t) && ((a.wr || b.wr) && !(decide (a.k = 3) && decide (b.k = 3))))
theorem race_cand {es : List Ev} {j i : Nat} {a b : Ev} (h : es[i]? = some a) : raceE es j b i = (candB a b && decide (ckAt es j a.t < ckAt es i a.t)) := by
 rw [raceE_at h]
 unfold candB
 simp only [Bool.and_assoc]
theorem find_one {p : Nat -> Bool} {i j : Nat} (h : ∀ q, q < i -> p q = false) (hp : p i = true) (hij : i < j) : (List.range j).find? p = some i := by
 rw [List.find?_range_eq_some]
 exact ⟨hp, List.mem_range.2 hij, fun q hq => by rw [h q hq]; rfl⟩
theorem find_no {p : Nat -> Bool} {j : Nat} (h : ∀ q, q < j -> p q = false) : (List.range j).find? p = none := by
 rw [List.find?_eq_none]
 intro q hq
 rw [h q (List.mem_range.1 hq)]
 decide
def ckV (es : List Ev) (j : Nat) : List Value := (List.range j).flatMap fun i => ints (clkL 4 (ckAt es i))
theorem ck4_len (f : Clk) : (ints (clkL 4 f)).length = 4 := by simp [ints, clkL]
theorem ckV_get (es : List Ev) {j i q : Nat} (hi : i < j) (hq : q < 4) : (ckV es j)[i * 4 + q]? = some (.int .i64 (ckAt es i q)) := by
 unfold ckV
 rw [flat_get (fun i => ints (clkL 4 (ckAt es i))) 4 (fun _ => ck4_len _) (l := List.range j) (j := i) (x := i) (by simp [hi]) q hq]
 exact ints_get (clkL_get hq)
theorem ckV_snoc (es : List Ev) (j : Nat) : ckV es (j + 1) = ckV es j ++ [.int .i64 (ckAt es j 0), .int .i64 (ckAt es j 1), .int .i64 (ckAt es j 2), .int .i64 (ckAt es j 3)] := by
 unfold ckV
 rw [List.range_succ, List.flatMap_append]
 simp [clkL, ints, List.range_succ]
theorem ck_one4 (a b c d : Int) : ∀ u ∈ [Value.int .i64 a, .int .i64 b, .int .i64 c, .int .i64 d], u.oneCell' = true := by
 intro u hu
 simp at hu
 rcases hu with rfl | rfl | rfl | rfl <;> rfl
theorem tL_zero : tL TS.zero = [.int .i64 0, .int .i64 0, .int .i64 0, .int .i64 0, .int .i64 0, .int .i64 0, .int .i64 0, .int .i64 0, .int .i64 0, .int .i64 0, .int .i64 0, .int .i64 0, .int .i64 0, .int .i64 0, .int .i64 0, .int .i64 0, .int .i64 0, .int .i64 0, .int .i64 0, .int .i64 0, .int .i64 0, .int .i64 0, .int .i64 0, .int .i64 0, .int .i64 0, .int .i64 0, .int .i64 0, .int .i64 0, .int .i64 0, .int .i64 0, .int .i64 0, .int .i64 0, .int .i64 0, .int .i64 0, .int .i64 0, .int .i64 0, .int .i64 0, .int .i64 0, .int .i64 0, .int .i64 0] := by kernel_rfl
def EvOk (l : Lit) (e : Ev) : Prop := e.t < l.tn /\ e.a < l.wn
theorem evOf_ok {l : Lit} (hok : okLit l = true) {S : LS} {u : Tn} {e : Ev} (he : evOf l S u = some e) : EvOk l e := by
 unfold evOf at he
 cases hp : pickS l S u with
 | none => rw [hp] at he; cases he
 | some x =>
  rw [hp] at he
  unfold pickS at hp
  by_cases hc : 0 <= u.t /\ u.t < (l.tn : Int) /\ u.out = false
  ·rw [if_pos hc] at hp
   have ht : u.t.toNat < l.tn := by omega
   unfold codeOf at hp
   cases hth : l.th[u.t.toNat]? with
   | none => rw [hth] at hp; simp at hp
   | some y =>
    rw [hth] at hp
    have hx := (okLit_code hok hth).2 x (List.mem_of_getElem? hp)
    have ha : x.kind = 1 ∨ x.kind = 2 ∨ x.kind = 3 -> x.addr.toNat < l.wn := by
     intro hk
     have h9 := hx
     unfold okIns at h9
     by_cases k1 : x.kind = 1 ∨ x.kind = 3
     ·rw [if_pos k1, Bool.and_eq_true] at h9
      obtain ⟨ad, h1, h2⟩ := adr_of h9.2
      omega
     ·rw [if_neg k1, if_pos (by omega), Bool.and_eq_true] at h9
      obtain ⟨ad, h1, h2⟩ := adr_of h9.1
      omega
    simp only [eventS] at he
    by_cases k1 : x.kind = 1
    ·rw [if_pos k1] at he
     injection he with he
     subst he
     exact ⟨ht, ha (Or.inl k1)⟩
    ·rw [if_neg k1] at he
     by_cases k2 : x.kind = 2
     ·rw [if_pos k2] at he
      injection he with he
      subst he
      exact ⟨ht, ha (Or.inr (Or.inl k2))⟩
     ·rw [if_neg k2] at he
      by_cases k3 : x.kind = 3
      ·rw [if_pos k3] at he
       injection he with he
       subst he
       exact ⟨ht, ha (Or.inr (Or.inr k3))⟩
      ·rw [if_neg k3] at he
       cases he
  ·rw [if_neg hc] at hp
   cases hp
theorem playE_ok {l : Lit} (hok : okLit l = true) (us : List Tn) : ∀ j, ∀ e ∈ playE l us j, EvOk l e
 | 0 => fun e he => by cases he
 | j + 1 => fun e he => by
  have ih := playE_ok hok us j
  cases hu : us[j]? with
  | none => rw [playE, hu] at he; exact ih e he
  | some u =>
   cases hv : evOf l (playS l us j) u with
   | none => rw [playE_none hu hv] at he; exact ih e he
   | some e' =>
    rw [playE_some hu hv] at he
    rcases List.mem_append.1 he with he | he
    ·exact ih e he
    ·simp at he
     subst he
     exact evOf_ok hok hv
theorem of_decide_eq {p : Prop} [Decidable p] {b : Bool} (h : decide p = b) : (p ↔ b = true) := by rw [<- h]; simp
structure PrI (es : List Ev) (B gx : Nat) (A : Option Addr) (m k c o : Nat) (va vo : Value) (W : World) : Prop where
 ev : W.ownsRow B 109 4 (.slice A m k) m (evVals es)
 x : Blk W gx 100 (tL (tsAt es c))
 al : W.ownsRow B 96 4 va c (ckV es c)
 ou : W.ownsRow B 60 3 vo (rcsE es o).length (rkVals (rcsE es o))
theorem PrI.on {es : List Ev} {B gx : Nat} {A : Option Addr} {m k c o : Nat} {va vo : Value} {W W' : World} (h : PrI es B gx A m k c o va vo W) (hb : Below W.heap.size W W') : PrI es B gx A m k c o va vo W' :=
 ⟨h.ev.below hb, h.x.below hb h.x.lt, h.al.below hb, h.ou.below hb⟩
def ParR (es : List Ev) (w : World) (e : Ending) (w' : World) : Prop := ∃ A k, e = .returned (.tuple #[.slice A (rcsE es es.length).length k, .int .i64 0]) /\ w'.ownsRow w.heap.size 60 3 (.slice A (rcsE es es.length).length k) (rcsE es es.length).length (rkVals (rcsE es es.length)) /\ Below w.heap.size w w'
theorem pairs_ok (l : Lit) (A : Option Addr) (n k : Nat) (us : List Tn) (w : World) (h : LitAt w w.heap.size l) (hu : Sl w w.heap.size 3 A n (tnVals us)) (hok : okLit l = true) (hle : n <= 4096) :
  Calls Tryz.prog 16 #[litV l, .slice A n k] w (ParR (playE l us us.length) w) := by
 have hul : us.length = n := by have := hu.1; rw [tnVals_len] at this; omega
 have hel := playE_len l us us.length
 have HEo := Lh (playE_ok hok us us.length)
 have hln := okLit_num hok
 have HB0 : Hid (Blk (w.alloc (.cells #[.slice l.wA l.wn l.wk, .slice l.tA l.tn l.tk] 25)) w.heap.size 25 (litL l)) := Blk.new _ _ _
 have HW0 : Hid (Below w.heap.size w (w.alloc (.cells #[.slice l.wA l.wn l.wk, .slice l.tA l.tn l.tk] 25))) := (Below.refl _ _).alloc (Nat.le_refl _) _
 have HL := Lh h
 have HU := Lh hu
 clear h hu
 obtain ⟨es, hes⟩ : ∃ es, es = playE l us us.length := ⟨_, rfl⟩
 rw [<- hes] at hel HEo ⊢
 have HEs := Lh hes
 have hm : es.length <= 4096 := by omega
 obtain ⟨i1, hi1, hi1z, hi1s, hi1b⟩ := info_parts info_ck
 obtain ⟨i2, hi2, hi2z, hi2s, hi2b⟩ := info_parts info_rc
 clear hes hel hul
 go_enter Tryz.func16, Tryz.ntmps16
 go_upto_region 1 with fail
 generalize w.alloc (.cells #[.slice l.wA l.wn l.wk, .slice l.tA l.tn l.tk] 25) = w0 at HB0 HW0 ⊢
 have q0 := HB0.o.cell (i := 0) rfl
 have q1 := HB0.o.cell (i := 1) rfl
 go_wp2_with fail
 refine (events_ok l A n k us w0 ((HL.o.keep HW0.o).up HW0.o.size) ((HU.o.below HW0.o).up HW0.o.size) hok).mono ?_
 rintro e w1 ⟨h9, _⟩
 obtain ⟨Ae, ke, rfl, hown, hb1⟩ := h9 hle
 rw [<- HEs.o] at hown ⊢
 have HW1 := Lh (HW0.o.trans (hb1.mono HW0.o.size))
 have HO1 := Lh (own_low hown HW0.o.size)
 have b1 : ((0 : Int) != 0) = false := rfl
 have hez : (0 : Int) <= es.length := by omega
 clear hb1 h9 hown q0 q1 HB0 HW0 HL HU HEs
 obtain ⟨m, hmm⟩ : ∃ m, m = es.length := ⟨_, rfl⟩
 rw [<- hmm] at HO1 hm hez ⊢
 have HMm := Lh hmm
 clear hmm
 obtain ⟨_, _, hke⟩ := own_form HO1.o
 have hke1 : m <= ke := by obtain ⟨_, _, h1, h2, _⟩ := own_form HO1.o; injection h1 with _ _ h1; omega
 have hke2 : ke <= maxLen := by obtain ⟨_, _, h1, _, h2⟩ := own_form HO1.o; injection h1 with _ _ h1; omega
 unfold maxLen at hke2
 clear hke
 go_upto_region 5 with fail
 obtain ⟨gx, hgx⟩ : ∃ gx, gx = w1.heap.size := ⟨_, rfl⟩
 obtain ⟨w2, hw2, HI, HW2, hgw⟩ : ∃ Z9, Z9 = w1.alloc (.cells #[.int .i64 0, .int .i64 0, .int .i64 0, .int .i64 0, .int .i64 0, .int .i64 0, .int .i64 0, .int .i64 0, .int .i64 0, .int .i64 0, .int .i64 0, .int .i64 0, .int .i64 0, .int .i64 0, .int .i64 0, .int .i64 0, .int .i64 0, .int .i64 0, .int .i64 0, .int .i64 0, .int .i64 0, .int .i64 0, .int .i64 0, .int .i64 0, .int .i64 0, .int .i64 0, .int .i64 0, .int .i64 0, .int .i64 0, .int .i64 0, .int .i64 0, .int .i64 0, .int .i64 0, .int .i64 0, .int .i64 0, .int .i64 0, .int .i64 0, .int .i64 0, .int .i64 0, .int .i64 0] 100) /\ Hid (PrI es w.heap.size gx Ae m ke 0 0 (.slice none 0 0) (.slice none 0 0) Z9) /\ Hid (Below w.heap.size w Z9) /\ w.heap.size <= gx := by
  refine ⟨_, rfl, ⟨HO1.o.alloc _, ?_, World.ownsRow_nil _ _ _ _, World.ownsRow_nil _ _ _ _⟩, HW1.o.alloc HW1.o.size _, by rw [hgx]; exact HW1.o.size⟩
  rw [hgx]
  show Blk _ _ _ (tL TS.zero)
  rw [tL_zero]
  exact Blk.new _ _ _
 rw [<- hw2, <- hgx]
 clear hw2 hgx HO1 HW1
 go_wp2_with fail
 go_loopg [9, 10, 27] m (fun gk v9 v10 i wr => ∃ (j : Nat) (va vo : Value), j + gk = m /\ i = .int .i64 j /\ va = v9 /\ vo = v10 /\ Hid (PrI es w.heap.size gx Ae m ke j j va vo wr) /\ Hid (Below w.heap.size w wr))
 case atStart => exact ⟨0, _, _, by omega, rfl, rfl, rfl, HI, HW2⟩
 case round =>
  obtain ⟨j, va, vo, hj, rfl, hva, hvo, HJ, HWj⟩ := hrel
  subst hva hvo
  by_cases hlt : j < m
  ·obtain ⟨b, hb⟩ := at_lt (show j < es.length by rw [<- HMm.o]; exact hlt)
   have HGb := Lh hb
   have hbo := HEo.o b (List.mem_of_getElem? hb)
   have hbt : b.t < 4 := by have := hbo.1; omega
   have hba : b.a < 6 := by have := hbo.2; omega
   obtain ⟨ge, hge, hgeB, hgeR⟩ := Rw.of_own HJ.o.ev (by omega)
   subst hge
   obtain ⟨Aa, ka, hva, hka1, hka2⟩ := own_form HJ.o.al
   subst hva
   obtain ⟨Ao, ko, hvo, hko1, hko2⟩ := own_form HJ.o.ou
   subst hvo
   have hrl := rcsE_len es j
   have e1 : (j : Int) < m := by omega
   have e0 : (0 : Int) <= j := by omega
   have c0 : wr.cell? ⟨ge, j * 4, none⟩ = some (.int .i64 b.t) := hgeR.cell ((evVals_get HGb.o 0 (by omega)).trans rfl)
   have c1 : wr.cell? ⟨ge, j * 4 + 1, none⟩ = some (.int .i64 b.k) := hgeR.cell ((evVals_get HGb.o 1 (by omega)).trans rfl)
   have c2 : wr.cell? ⟨ge, j * 4 + 2, none⟩ = some (.int .i64 b.a) := hgeR.cell ((evVals_get HGb.o 2 (by omega)).trans rfl)
   have c3 : wr.cell? ⟨ge, j * 4 + 3, none⟩ = some (.bool b.wr) := hgeR.cell ((evVals_get HGb.o 3 (by omega)).trans rfl)
   clear hb hbo
   go_upto_region 10 with fail
   obtain ⟨gb, hgb⟩ : ∃ gb, gb = wr.heap.size := ⟨_, rfl⟩
   obtain ⟨x1, hx1, HB1, hb1⟩ : ∃ Z9, Z9 = wr.alloc (.cells #[.int .i64 b.t, .int .i64 b.k, .int .i64 b.a, .bool b.wr] 109) /\ Hid (Blk Z9 gb 109 (evL b)) /\ Below wr.heap.size wr Z9 := ⟨_, rfl, by rw [hgb]; exact Blk.new _ _ _, (Below.refl _ _).alloc (Nat.le_refl _) _⟩
   rw [<- hx1, <- hgb]
   have HJ1 := Lh (HJ.o.on hb1)
   have HW1 := Lh (HWj.o.trans (hb1.mono HWj.o.size))
   have hgbw : w.heap.size <= gb := by rw [hgb]; exact HWj.o.size
   have hgne : ge ≠ gx := by
    obtain ⟨_, cs, c9, _⟩ := hgeR
    exact c9.ne HJ.o.x (by decide)
   have hgbg : ge < gb := by rw [hgb]; exact hgeR.lt
   clear hx1 hb1 hgb HJ HWj hgeR c0 c1 c2 c3
   have y0 := HB1.o.cell (i := 0) rfl
   have y1 := HB1.o.cell (i := 1) rfl
   have y2 := HB1.o.cell (i := 2) rfl
   have y3 := HB1.o.cell (i := 3) rfl
   go_wp2_with fail
   refine (tick_any gx (tsAt es j) b.t b.k b.a b.wr x1 HJ1.o.x hbt hba).mono ?_
   rintro e x2 ⟨rfl, hx2, hfr⟩
   have hkp : ∀ g, g < x1.heap.size -> g ≠ gx -> x2.heap[g]? = x1.heap[g]? := fun g h1 h2 => hfr.block g h1 h2
   have HX2 : Hid (Blk x2 gx 100 (tL (tsAt es (j + 1)))) := by rw [tsAt_next HGb.o]; exact hx2
   have HE2 : Hid (x2.ownsRow w.heap.size 109 4 (.slice (some ⟨ge, 0, none⟩) m ke) m (evVals es)) := own_kept HJ1.o.ev HJ1.o.x (by decide) hkp
   have HA2 : Hid (x2.ownsRow w.heap.size 96 4 (.slice Aa j ka) j (ckV es j)) := own_kept HJ1.o.al HJ1.o.x (by decide) hkp
   have HO2 : Hid (x2.ownsRow w.heap.size 60 3 (.slice Ao (rcsE es j).length ko) (rcsE es j).length (rkVals (rcsE es j))) := own_kept HJ1.o.ou HJ1.o.x (by decide) hkp
   have HB2 : Hid (Blk x2 gb 109 (evL b)) := HB1.o.kept (hkp gb HB1.o.lt (HB1.o.ne HJ1.o.x (by decide)))
   have HW2' : Hid (Below w.heap.size w x2) := HW1.o.trans (hfr.to_below HW1.o.size (fun g hg => by rw [hg]; exact hgw))
   have hxz := HW2'.o.size
   clear hx2 hfr hkp y0 y1 y2 y3 HB1 HJ1 HW1
   go_wp2_with (at_builtin; go_must (refine wpList_app _ rfl _ _ 40 rfl w.heap.size 96 i1 (.agg #[.int .i64 0, .int .i64 0, .int .i64 0, .int .i64 0]) 4 32 Tryz.underlying40 hi1 hi1z hi1s hi1b rfl (by decide) (.slice Aa j ka) j (ckV es j) rfl (HA2.o.alloc _) (x2.heap.size + 1) (some ⟨x2.heap.size, 0, none⟩) 1 1 [.int .i64 (tickM (tsAt es j) ⟨b.t, b.k, b.a, b.wr⟩ 0), .int .i64 (tickM (tsAt es j) ⟨b.t, b.k, b.a, b.wr⟩ 1), .int .i64 (tickM (tsAt es j) ⟨b.t, b.k, b.a, b.wr⟩ 2), .int .i64 (tickM (tsAt es j) ⟨b.t, b.k, b.a, b.wr⟩ 3)] rfl (((Blk.new x2 96 _).sl rfl).up (by simp)) (ck_one4 _ _ _ _) (j + 1) rfl (ckV es (j + 1)) (by rw [ckV_snoc, ckAt_at HGb.o]) _ rfl (by simp only [maxLen]; omega) (by omega) (by rw [World.size_alloc]; omega) ?_; intro A7 k7 x3 hown7 hg7 hat7 hk7 hk8; have HA3 := Lh hown7; have HGr := Lh ((World.grownBy_alloc x2 (.cells #[.int .i64 (tickM (tsAt es j) ⟨b.t, b.k, b.a, b.wr⟩ 0), .int .i64 (tickM (tsAt es j) ⟨b.t, b.k, b.a, b.wr⟩ 1), .int .i64 (tickM (tsAt es j) ⟨b.t, b.k, b.a, b.wr⟩ 2), .int .i64 (tickM (tsAt es j) ⟨b.t, b.k, b.a, b.wr⟩ 3)] 96) (Value.slice Aa j ka).ownBlock).trans hg7); clear hown7 hg7 hat7))
   have HE3 := Lh (own_grown HE2.o HA2.o HGr.o (by decide))
   have HO3 := Lh (own_grown HO2.o HA2.o HGr.o (by decide))
   have HX3 := Lh (HX2.o.grown HGr.o (own_nb HA2.o HX2.o (by decide)))
   have HB3 := Lh (HB2.o.grown HGr.o (own_nb HA2.o HB2.o (by decide)))
   have HW3 := Lh (HW2'.o.grown HGr.o HW2'.o.size (fun q hq => (HA2.o.lt q hq).1))
   have HP3 : Hid (PrI es w.heap.size gx (some ⟨ge, 0, none⟩) m ke (j + 1) j (.slice A7 (j + 1) k7) (.slice Ao (rcsE es j).length ko) x3) := ⟨HE3.o, HX3.o, HA3.o, HO3.o⟩
   obtain ⟨ga, hgaE, hgaB, hgaR⟩ := Rw.of_own HA3.o (by omega)
   subst hgaE
   have HGa := Lh hgaR
   obtain ⟨ge', hge', _, hgeR3⟩ := Rw.of_own HE3.o (by omega)
   injection hge' with hge'
   injection hge' with hge' _
   subst hge'
   have HGe := Lh hgeR3
   have hx3z := HW3.o.size
   clear HE3 HO3 HX3 HA3 hgaR hgeR3 HE2 HO2 HX2 HA2 HB2 HW2' HGr
   obtain ⟨wo, rfl⟩ : ∃ wo : World, wo = x3 := ⟨_, rfl⟩
   obtain ⟨go, rfl⟩ : ∃ go : Nat, go = gk := ⟨_, rfl⟩
   go_loopg [10, 41] j (fun gk v10 i wi => ∃ q : Nat, q + gk = j /\ i = .int .i64 q /\ .slice Ao (rcsE es j).length ko = v10 /\ Hid (Below wo.heap.size wo wi) /\ Hid (∀ q', q' < q -> raceE es j b q' = false))
   case atStart => exact ⟨0, by omega, rfl, rfl, Below.refl _ _, fun _ h => absurd h (by omega)⟩
   case round =>
    obtain ⟨q, hq, rfl, hv10, HBq, HF⟩ := hrel
    subst hv10
    by_cases hqj : q < j
    ·obtain ⟨a, ha⟩ := at_lt (show q < es.length by rw [<- HMm.o]; omega)
     have HGa' := Lh ha
     have hat : a.t < 4 := by have := (HEo.o a (List.mem_of_getElem? ha)).1; omega
     have hRe := HGe.o.on HBq.o
     have f1 : (q : Int) < j := by omega
     have f0 : (0 : Int) <= q := by omega
     have d0 : wr.cell? ⟨ge, q * 4, none⟩ = some (.int .i64 a.t) := hRe.cell ((evVals_get HGa'.o 0 (by omega)).trans rfl)
     have d1 : wr.cell? ⟨ge, q * 4 + 1, none⟩ = some (.int .i64 a.k) := hRe.cell ((evVals_get HGa'.o 1 (by omega)).trans rfl)
     have d2 : wr.cell? ⟨ge, q * 4 + 2, none⟩ = some (.int .i64 a.a) := hRe.cell ((evVals_get HGa'.o 2 (by omega)).trans rfl)
     have d3 : wr.cell? ⟨ge, q * 4 + 3, none⟩ = some (.bool a.wr) := hRe.cell ((evVals_get HGa'.o 3 (by omega)).trans rfl)
     clear ha hRe
     go_upto_region 14 with fail
     obtain ⟨gz, hgz⟩ : ∃ gz, gz = wr.heap.size := ⟨_, rfl⟩
     obtain ⟨x4, hx4, HA4, hb4⟩ : ∃ Z9, Z9 = wr.alloc (.cells #[.int .i64 a.t, .int .i64 a.k, .int .i64 a.a, .bool a.wr] 109) /\ Hid (Blk Z9 gz 109 (evL a)) /\ Below wr.heap.size wr Z9 := ⟨_, rfl, by rw [hgz]; exact Blk.new _ _ _, (Below.refl _ _).alloc (Nat.le_refl _) _⟩
     rw [<- hx4, <- hgz]
     have HB4 := Lh (HBq.o.trans (hb4.mono HBq.o.size))
     have HBb := Lh (HB3.o.below HB4.o HB3.o.lt)
     clear hx4 hb4 hgz d0 d1 d2 d3
     have HCd : Hid (raceE es j b q = (candB a b && decide (ckAt es j a.t < ckAt es q a.t))) := race_cand HGa'.o
     have y0 := HA4.o.cell (i := 0) rfl
     have y1 := HA4.o.cell (i := 1) rfl
     have y2 := HA4.o.cell (i := 2) rfl
     have y3 := HA4.o.cell (i := 3) rfl
     have z0 := HBb.o.cell (i := 0) rfl
     have z1 := HBb.o.cell (i := 1) rfl
     have z2 := HBb.o.cell (i := 2) rfl
     have z3 := HBb.o.cell (i := 3) rfl
     obtain ⟨k3a, hk3a⟩ : ∃ k3a, decide (a.k = 3) = k3a := ⟨_, rfl⟩
     obtain ⟨k3b, hk3b⟩ : ∃ k3b, decide (b.k = 3) = k3b := ⟨_, rfl⟩
     have p1 : (a.k == 3) = k3a := hk3a
     have p2 : (b.k == 3) = k3b := hk3b
     have HK := Lh hk3a
     have HK2 := Lh hk3b
     clear hk3a hk3b
     obtain ⟨bo, hbo⟩ : ∃ bo, (k3a && k3b) = bo := ⟨_, rfl⟩
     obtain ⟨wa, hwa⟩ : ∃ wa, a.wr = wa := ⟨_, rfl⟩
     obtain ⟨wb, hwb⟩ : ∃ wb, b.wr = wb := ⟨_, rfl⟩
     have HCn : Hid (candB a b = (decide (a.a = b.a) && (!decide (a.t = b.t) && ((wa || wb) && !bo)))) := by
      unfold candB
      rw [HK.o, HK2.o, hbo, hwa, hwb]
      exact Lh rfl
     rw [hwa] at y3
     rw [hwb] at z3
     have HBo := Lh hbo
     have HWb := Lh hwb
     clear hbo hwa hwb
     go_cut [15] (fun s15 wc => s15 = .bool bo /\ x4 = wc)
     case first =>
      cases k3a <;> cases k3b
      all_goals (
       have p3 := of_decide_eq HK.o
       have p4 := of_decide_eq HK2.o
       have p5 := HBo.o
       subst p5
       go_wp2_with fail
       go_meet
       exact ⟨rfl, rfl⟩)
     case rest =>
     obtain ⟨rfl, rfl⟩ := hcut
     clear p1 p2 HK HK2 HBo
     go_upto_region 15 with fail
     go_cut [78] (fun s78 wc => s78 = .bool (!candB a b) /\ x4 = wc)
     case first =>
      by_cases h1 : a.a = b.a
      case neg =>
       have m1 : ((a.a : Int) != (b.a : Int)) = true := by simp; omega
       have m2 : ¬ (a.a : Int) = (b.a : Int) := by omega
       go_wp2_with fail
       go_meet
       exact ⟨by rw [HCn.o]; simp [h1], rfl⟩
      have m1 : ((a.a : Int) != (b.a : Int)) = false := by simp; omega
      have m2 : (a.a : Int) = (b.a : Int) := by omega
      by_cases h2 : a.t = b.t
      case pos =>
       have m3 : ((a.t : Int) == (b.t : Int)) = true := by simp; omega
       have m4 : (a.t : Int) = (b.t : Int) := by omega
       go_wp2_with fail
       go_meet
       exact ⟨by rw [HCn.o]; simp [h1, h2], rfl⟩
      have m3 : ((a.t : Int) == (b.t : Int)) = false := by simp; omega
      have m4 : ¬ (a.t : Int) = (b.t : Int) := by omega
      cases wa
      case false =>
       cases wb
       case false =>
        go_wp2_with fail
        go_meet
        exact ⟨by rw [HCn.o]; simp, rfl⟩
       case true =>
        go_wp2_with fail
        go_meet
        exact ⟨by rw [HCn.o]; simp [h1, h2], rfl⟩
      case true =>
       go_wp2_with fail
       go_meet
       exact ⟨by rw [HCn.o]; simp [h1, h2], rfl⟩
     case rest =>
     obtain ⟨rfl, rfl⟩ := hcut
     clear HCn y1 y2 y3 z0 z1 z3
     cases hcd : candB a b with
     | false =>
      have HRq : Hid (raceE es j b q = false) := by rw [HCd.o, hcd]; exact Lh rfl
      have hnb : (!false) = true := rfl
      clear hcd
      go_wp2_with fail
      go_roundg (gk - 1)
      case measure => omega
      case rel => exact ⟨q + 1, by omega, by go_num, rfl, HB4, fun q' h' => by
       rcases Nat.lt_or_eq_of_le (Nat.le_of_lt_succ h') with h9 | h9
       ·exact HF.o q' h9
       ·rw [h9]; exact HRq.o⟩
     | true =>
      have hRa := HGa.o.on HB4.o
      have v1 : x4.cell? ⟨ga, j * 4 + a.t, none⟩ = some (.int .i64 (ckAt es j a.t)) := hRa.cell (ckV_get es (by omega) hat)
      have v2 : x4.cell? ⟨ga, q * 4 + a.t, none⟩ = some (.int .i64 (ckAt es q a.t)) := hRa.cell (ckV_get es (by omega) hat)
      have g0 : (0 : Int) <= a.t := by omega
      have g1 : (a.t : Int) < 4 := by omega
      have g2 : (j : Int) < ((j + 1 : Nat) : Int) := by omega
      have g3 : (q : Int) < ((j + 1 : Nat) : Int) := by omega
      have hnb : (!true) = false := rfl
      have HRq : Hid (raceE es j b q = decide (ckAt es j a.t < ckAt es q a.t)) := by rw [HCd.o, hcd]; exact Lh (by simp)
      clear hRa hcd
      go_upto_region 16 with fail
      go_quiet (fail)
      obtain ⟨x5, hx5, hb5⟩ : ∃ Z9, Z9 = x4.drewN nq /\ Below x4.heap.size x4 Z9 := ⟨_, rfl, (Below.refl _ _).drewN _⟩
      rw [<- hx5]
      have HB5 := Lh (HB4.o.trans (hb5.mono HB4.o.size))
      have HBb5 := Lh (HBb.o.below hb5 HBb.o.lt)
      clear hx5 hb5 v1 v2 g0 g1 g2 g3 y0 z2
      have z2 := HBb5.o.cell (i := 2) rfl
      by_cases hlt9 : ckAt es j a.t < ckAt es q a.t
      case neg =>
       have m5 : decide (ckAt es j a.t < ckAt es q a.t) = false := by simpa using hlt9
       have HRf : Hid (raceE es j b q = false) := by rw [HRq.o, m5]; exact Lh rfl
       go_wp2_with fail
       go_roundg (gk - 1)
       case measure => omega
       case rel => exact ⟨q + 1, by omega, by go_num, rfl, HB5, fun q' h' => by
        rcases Nat.lt_or_eq_of_le (Nat.le_of_lt_succ h') with h9 | h9
        ·exact HF.o q' h9
        ·rw [h9]; exact HRf.o⟩
      case pos =>
       have m5 : decide (ckAt es j a.t < ckAt es q a.t) = true := by simpa using hlt9
       have HRt : Hid (rcsE es (j + 1) = rcsE es j ++ [(q, j, (b.a : Int))]) := by
        refine rcsE_one HGb.o (find_one HF.o ?_ hqj)
        rw [HRq.o, m5]
       have HP5 := Lh (HP3.o.on HB5.o)
       have hx5z := HB5.o.size
       go_wp2_with (at_builtin; go_must (refine wpList_app _ rfl _ _ 51 rfl w.heap.size 60 i2 (.agg #[.int .i64 0, .int .i64 0, .int .i64 0]) 3 24 Tryz.underlying51 hi2 hi2z hi2s hi2b rfl (by decide) (.slice Ao (rcsE es j).length ko) (rcsE es j).length (rkVals (rcsE es j)) rfl (HP5.o.ou.alloc _) (x5.heap.size + 1) (some ⟨x5.heap.size, 0, none⟩) 1 1 [.int .i64 q, .int .i64 j, .int .i64 b.a] rfl (((Blk.new x5 60 _).sl rfl).up (by simp)) (rk_one _ _ _) ((rcsE es j).length + 1) rfl _ rfl _ rfl (by simp only [maxLen]; omega) (by omega) (by rw [World.size_alloc]; omega) ?_; intro A9 k9 x6 hown9 hg9 hat9 hk9 hk10))
       have hgg := (World.grownBy_alloc x5 (.cells #[.int .i64 q, .int .i64 j, .int .i64 b.a] 60) (Value.slice Ao (rcsE es j).length ko).ownBlock).trans hg9
       go_roundg (go - 1)
       case measure => omega
       case rel =>
        refine ⟨j + 1, _, .slice A9 ((rcsE es j).length + 1) k9, by omega, by go_num, rfl, rfl, ⟨own_grown HP5.o.ev HP5.o.ou hgg (by decide), HP5.o.x.grown hgg (own_nb HP5.o.ou HP5.o.x (by decide)), own_grown HP5.o.al HP5.o.ou hgg (by decide), ?_⟩, (HW3.o.trans (HB5.o.mono HW3.o.size)).grown hgg (by omega) (fun q hq => (HP5.o.ou.lt q hq).1)⟩
        rw [HRt.o, rkVals_snoc, List.length_append]
        exact hown9
    ·obtain rfl : q = j := by omega
     have HRn := Lh (rcsE_none HGb.o (find_no HF.o))
     go_wp2_with fail
     go_roundg (go - 1)
     case measure => omega
     case rel =>
      have hp := HP3.o.on HBq.o
      exact ⟨q + 1, _, _, by omega, by go_num, rfl, rfl, ⟨hp.ev, hp.x, hp.al, by rw [HRn.o]; exact hp.ou⟩, HW3.o.trans (HBq.o.mono HW3.o.size)⟩
  ·obtain rfl : j = m := by omega
   obtain ⟨Ao, ko, hvo, hko1, hko2⟩ := own_form HJ.o.ou
   subst hvo
   have hml := HMm.o
   go_wp2_with fail
   go_ret2
   refine ⟨Ao, ko, ?_, ?_, HWj.o⟩
   ·rw [<- hml]
    rfl
   ·rw [<- hml]
    exact HJ.o.ou
end Go.Proofs.YtgjdgapfnfhklaaGreat
