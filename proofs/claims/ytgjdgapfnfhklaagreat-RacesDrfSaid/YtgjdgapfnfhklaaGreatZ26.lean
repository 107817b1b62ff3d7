/-
Turns of a litmus program under the three orders, with buffe
-/
import Derived.Test.YtgjdgapfnfhklaaGreatZ7
import Derived.Test.YtgjdgapfnfhklaaGreatZ4
import Derived.BigQuiet
import Derived.StillTailTactics
import Derived.Deep.RegionHeld3
set_option linter.unusedSimpArgs false
set_option linter.unusedVariables false
set_option maxRecDepth 100000
set_option maxHeartbeats 4000000
namespace Go.Proofs.YtgjdgapfnfhklaaGreat
open Go.RowKit
def tnB (t : Nat) : Tn := ⟨t, false, 0⟩
abbrev Pd := Nat × Int
structure BS where
 S : LS
 q : List (List Pd)
def BS.b (B : BS) (t : Nat) : List Pd := B.q.getD t []
def lastQ : List Pd -> Nat -> Option Int
 | [], _ => none
 | p :: r, a => match lastQ r a with
  | some v => some v
  | none => if p.1 = a then some p.2 else none
def BS.see (B : BS) (t a : Nat) : Int := (lastQ (B.b t) a).getD (B.S.w a)
def valS (S : LS) (t : Nat) (x : Ins) : Int := if 0 <= x.src then S.r t x.src.toNat else x.value
def advS (S : LS) (t c : Nat) (x : Ins) : List Nat := S.ps.set t (min (S.p t + skipS S t x + 1) c)
def doB (late : Bool) (B : BS) (t c : Nat) (x : Ins) : Option BS :=
 if x.kind = 1 then some ⟨⟨B.S.ws, B.S.rs.set (t * 4 + x.reg.toNat) (B.see t x.addr.toNat), advS B.S t c x⟩, B.q⟩
 else if x.kind = 2 /\ late = true then some ⟨⟨B.S.ws, B.S.rs, advS B.S t c x⟩, B.q.set t (B.b t ++ [(x.addr.toNat, valS B.S t x)])⟩
 else if (x.kind = 3 ∨ x.kind = 4) /\ B.b t ≠ [] then none
 else some ⟨nextS B.S t c x, B.q⟩
def outQ (o : Nat) (a : Int) : List Pd -> Option (Pd × List Pd)
 | [] => none
 | p :: r => if o = 3 /\ (p.1 : Int) ≠ a then (outQ o a r).map fun y => (y.1, p :: y.2) else some (p, r)
def turnB (l : Lit) (o : Nat) (B : BS) (u : Tn) : Option BS :=
 if 0 <= u.t /\ u.t < l.tn then
  if u.out = true then (outQ o u.a (B.b u.t.toNat)).map fun y => ⟨⟨B.S.ws.set y.1.1 y.1.2, B.S.rs, B.S.ps⟩, B.q.set u.t.toNat y.2⟩
  else match (codeOf l u.t.toNat)[B.S.p u.t.toNat]? with
   | none => none
   | some x => doB (!decide (o = 1)) B u.t.toNat (codeOf l u.t.toNat).length x
 else none
def turnsO (l : Lit) (o : Nat) : List Tn := (List.range l.tn).flatMap fun t => tnB t :: (if o = 2 then [⟨t, true, 0⟩] else if o = 3 then (List.range l.wn).map fun a : Nat => ⟨t, true, a⟩ else [])
def firstB (l : Lit) : BS := ⟨firstS l, List.replicate l.tn []⟩
theorem lastQ_app (a : Nat) : ∀ (q r : List Pd), lastQ (q ++ r) a = match lastQ r a with | some v => some v | none => lastQ q a
 | [], r => by
  show lastQ r a = _
  cases lastQ r a <;> rfl
 | p :: q, r => by
  show (match lastQ (q ++ r) a with | some v => some v | none => if p.1 = a then some p.2 else none) = _
  rw [lastQ_app a q r]
  cases lastQ r a with
  | some v => rfl
  | none => rfl
theorem first_b (l : Lit) (S : LS) (t : Nat) : BS.b ⟨S, List.replicate l.tn []⟩ t = [] := by
 show (List.replicate l.tn []).getD t [] = []
 rw [List.getD_eq_getElem?_getD, List.getElem?_replicate]
 split <;> rfl
theorem do_sc {late : Bool} {l : Lit} {S : LS} {t c : Nat} {i : Ins} (h : ¬ (i.kind = 2 /\ late = true)) : doB late ⟨S, List.replicate l.tn []⟩ t c i = some ⟨nextS S t c i, List.replicate l.tn []⟩ := by
 unfold doB
 by_cases k1 : i.kind = 1
 ·rw [if_pos k1]
  have hS : nextS S t c i = ⟨S.ws, S.rs.set (t * 4 + i.reg.toNat) (S.w i.addr.toNat), advS S t c i⟩ := by unfold nextS effS; rw [if_pos k1]; rfl
  rw [hS]
  unfold BS.see
  rw [first_b]
  rfl
 ·rw [if_neg k1, if_neg h, if_neg (fun h9 => h9.2 (first_b l S t))]
theorem turn_sc (l : Lit) (S : LS) (u : Tn) : turnB l 1 ⟨S, List.replicate l.tn []⟩ u = (pickS l S u).map fun _ => ⟨turnS l S u, List.replicate l.tn []⟩ := by
 unfold turnB turnS pickS
 by_cases h : 0 <= u.t /\ u.t < l.tn
 ·rw [if_pos h]
  by_cases ho : u.out = true
  ·rw [if_pos ho, if_neg (by simp [ho]), first_b]
   rfl
  ·have ho' : u.out = false := by simpa using ho
   rw [if_neg ho, if_pos ⟨h.1, h.2, ho'⟩]
   dsimp only
   cases (codeOf l u.t.toNat)[S.p u.t.toNat]? with
   | none => rfl
   | some x => exact do_sc (by simp)
 ·rw [if_neg h, if_neg (fun h9 => h ⟨h9.1, h9.2.1⟩)]
  rfl
end Go.Proofs.YtgjdgapfnfhklaaGreat
namespace Go.Proofs.YtgjdgapfnfhklaaGreat
open Go.RowKit
theorem look_any (l : Lit) (w : World) (h : LitAt w w.heap.size l) : Calls Tryz.prog 58 #[litV l, .int .i64 1] w (IntR (litErr l) w) := by
 have HB0 : Hid (Blk (w.alloc (.cells #[.slice l.wA l.wn l.wk, .slice l.tA l.tn l.tk] 25)) w.heap.size 25 (litL l)) := Blk.new _ _ _
 have HW0 : Hid (Below w.heap.size w (w.alloc (.cells #[.slice l.wA l.wn l.wk, .slice l.tA l.tn l.tk] 25))) := (Below.refl _ _).alloc (Nat.le_refl _) _
 have HL := Lh h
 clear h
 go_enter Tryz.func58, Tryz.ntmps58
 go_upto_region 1 with fail
 generalize w.alloc (.cells #[.slice l.wA l.wn l.wk, .slice l.tA l.tn l.tk] 25) = w0 at HB0 HW0 ⊢
 have q0 := HB0.o.cell (i := 0) rfl
 have q1 := HB0.o.cell (i := 1) rfl
 go_wp2_with fail
 refine (tcheck_any l w0 ((HL.o.keep HW0.o).up HW0.o.size)).mono ?_
 rintro e w1 ⟨rfl, hb1⟩
 have HW1 := Lh (HW0.o.trans (hb1.mono HW0.o.size))
 clear hb1
 by_cases ho : okLit l = true
 ·rw [litErr_ok ho]
  have b1 : ((0 : Int) != 0) = false := rfl
  have b2 : decide ((1 : Int) < 1) = false := rfl
  have b3 : decide ((3 : Int) < 1) = false := rfl
  go_wp2_with fail
  go_ret
  exact ⟨by rw [litErr_ok ho]; rfl, HW1.o⟩
 ·rw [litErr_no (by simpa using ho)]
  have b1 : ((190 : Int) != 0) = true := rfl
  go_wp2_with fail
  go_ret
  exact ⟨by rw [litErr_no (by simpa using ho)]; rfl, HW1.o⟩
theorem LitAt.heads {w : World} {B : Nat} {l : Lit} (h : LitAt w B l) (h1 : 1 <= l.tn) : ∃ b o, l.tA = some ⟨b, o, none⟩ /\ b < B /\ ∀ j x, l.th[j]? = some x -> w.cell? ⟨b, o + j, none⟩ = some (.slice x.1.1 x.1.2.1 x.1.2.2) := by
 obtain ⟨x, hx⟩ := at_lt (show 0 < l.th.length by rw [h.tlen]; omega)
 obtain ⟨b, o, e, hb, _⟩ := h.head hx
 refine ⟨b, o, e, hb, fun j y hy => ?_⟩
 obtain ⟨b', o', e', _, hc⟩ := h.head hy
 rw [e] at e'
 injection e' with e'
 injection e' with e1 e2
 subst e1 e2
 exact hc
theorem codeOf_at {l : Lit} {t : Nat} {x : Hd × List Ins} (h : l.th[t]? = some x) : codeOf l t = x.2 := by unfold codeOf; rw [h]
theorem belongs_any (l : Lit) (w : World) (h : SH) (S : LS) (hl : LitAt w w.heap.size l) (hs : StAt w h l.tn l.wn S) (hg : GoodS l S) (hok : okLit l = true) :
  Calls Tryz.prog 73 #[litV l, .int .i64 1, stV h l.tn l.wn] w (BoolR true w) := by
 obtain ⟨n1, n2, n3, n4⟩ := okLit_num hok
 have HL := Lh hl
 have HS := Lh hs
 have HG := Lh hg
 have HOk := Lh hok
 obtain ⟨tb, to', hta, htb, _⟩ := hl.heads n1
 clear hl hs hg hok
 obtain ⟨wA, wn, wk, ws, tA, tn, tk, th⟩ := l
 have hta' : tA = some ⟨tb, to', none⟩ := hta
 subst hta'
 clear hta
 dsimp only at n1 n2 n3 n4
 have HL0 : Hid (Blk ((w.alloc (.cells #[.slice wA wn wk, .slice (some ⟨tb, to', none⟩) tn tk] 25)).alloc (.cells #[.slice (some ⟨h.gw, 0, none⟩) wn h.kw, .slice (some ⟨h.gr, 0, none⟩) tn h.kr, .slice (some ⟨h.gp, 0, none⟩) tn h.kp, .slice (some ⟨h.gb, 0, none⟩) tn h.kb] 77)) w.heap.size 25 [.slice wA wn wk, .slice (some ⟨tb, to', none⟩) tn tk]) := (Blk.new w 25 [.slice wA wn wk, .slice (some ⟨tb, to', none⟩) tn tk]).alloc _
 have HX0 : Hid (Blk ((w.alloc (.cells #[.slice wA wn wk, .slice (some ⟨tb, to', none⟩) tn tk] 25)).alloc (.cells #[.slice (some ⟨h.gw, 0, none⟩) wn h.kw, .slice (some ⟨h.gr, 0, none⟩) tn h.kr, .slice (some ⟨h.gp, 0, none⟩) tn h.kp, .slice (some ⟨h.gb, 0, none⟩) tn h.kb] 77)) (w.heap.size + 1) 77 (stL h tn wn)) := by
  have h9 := Blk.new (w.alloc (.cells #[.slice wA wn wk, .slice (some ⟨tb, to', none⟩) tn tk] 25)) 77 (stL h tn wn)
  rw [World.size_alloc] at h9
  exact h9
 have HW0 : Hid (Below w.heap.size w ((w.alloc (.cells #[.slice wA wn wk, .slice (some ⟨tb, to', none⟩) tn tk] 25)).alloc (.cells #[.slice (some ⟨h.gw, 0, none⟩) wn h.kw, .slice (some ⟨h.gr, 0, none⟩) tn h.kr, .slice (some ⟨h.gp, 0, none⟩) tn h.kp, .slice (some ⟨h.gb, 0, none⟩) tn h.kb] 77))) := ((Below.refl _ _).alloc (Nat.le_refl _) _).alloc (by simp) _
 go_enter Tryz.func73, Tryz.ntmps73
 go_upto_region 1 with fail
 generalize ((w.alloc (.cells #[.slice wA wn wk, .slice (some ⟨tb, to', none⟩) tn tk] 25)).alloc (.cells #[.slice (some ⟨h.gw, 0, none⟩) wn h.kw, .slice (some ⟨h.gr, 0, none⟩) tn h.kr, .slice (some ⟨h.gp, 0, none⟩) tn h.kp, .slice (some ⟨h.gb, 0, none⟩) tn h.kb] 77)) = w0 at HL0 HX0 HW0 ⊢
 have q0 := HL0.o.cell (i := 0) rfl
 have q1 := HL0.o.cell (i := 1) rfl
 have s0 := HX0.o.cell (i := 0) rfl
 have s1 := HX0.o.cell (i := 1) rfl
 have s2 := HX0.o.cell (i := 2) rfl
 have s3 := HX0.o.cell (i := 3) rfl
 have d1 : ((wn : Int) != wn) = false := by simp
 have d2 : ((tn : Int) != tn) = false := by simp
 go_wp2_with fail
 clear d1 d2 q0 q1 s0 s1 s2 s3
 go_loopg [46] tn (fun gk i wr => ∃ j : Nat, j + gk = tn /\ i = .int .i64 j /\ Hid (Blk wr w.heap.size 25 [.slice wA wn wk, .slice (some ⟨tb, to', none⟩) tn tk]) /\ Hid (Blk wr (w.heap.size + 1) 77 (stL h tn wn)) /\ Hid (Below w.heap.size w wr))
 case atStart => exact ⟨0, by omega, rfl, HL0, HX0, HW0⟩
 case round =>
  obtain ⟨j, hj, rfl, HB, HX, HW⟩ := hrel
  by_cases hlt : j < tn
  ·obtain ⟨x, hx⟩ := at_lt (show j < th.length by have := HL.o.tlen; dsimp only at this; omega)
   have hL := HL.o.keep HW.o
   obtain ⟨tb2, to2, hta2, htb2, htc⟩ := hL.head hx
   injection hta2 with hta2
   injection hta2 with e1 e2
   subst e1 e2
   have hcl := hL.clen (List.mem_of_getElem? hx)
   have hle := HG.o.le j hlt
   rw [codeOf_at hx, hcl] at hle
   have h10 := (okLit_code HOk.o hx).1
   have hco := (hL.code x (List.mem_of_getElem? hx)).2.1
   have hn1 := hco.1
   have hn2 := hco.2
   unfold maxLen at hn2
   clear hx hco hL hcl
   obtain ⟨⟨xA, xn, xk⟩, code⟩ := x
   dsimp only at hn1 hn2 htc hle h10
   have HW2 := HS.o.on HW.o
   have c1 := HW2.place (LS.p_at (S := S) (t := j) (by rw [HW2.plen]; exact hlt))
   have c2 := HW2.buf hlt
   clear HW2
   have e1 : (j : Int) < tn := by omega
   have e0 : (0 : Int) <= j := by omega
   have q0 := HB.o.cell (i := 0) rfl
   have q1 := HB.o.cell (i := 1) rfl
   have s2 := HX.o.cell (i := 2) rfl
   have s3 := HX.o.cell (i := 3) rfl
   have x1 : IntKind.i64.wrap ((xn : Int) + 1) = ((xn + 1 : Nat) : Int) := (IntWalk.i64_in _ (by omega)).trans (by simp)
   have HWi : Hid (∀ W, Calls Tryz.prog 77 #[.int .i64 (S.p j), .int .i64 ((xn + 1 : Nat) : Int)] W (fun e w' => e = .returned (.bool true) /\ w' = W)) := fun W => win_b W (by simp; omega)
   have d3 : decide ((10 : Int) < 0) = false := rfl
   have d4 : decide ((0 : Int) < 0) = false := rfl
   have d5 : ((1 : Int) == 1) = true := rfl
   go_wp2_with fail
   refine (HWi.o _).mono ?_
   rintro e w1 ⟨rfl, rfl⟩
   go_wp2_with fail
   clear q0 q1 s2 s3 c1 c2 htc e0 e1
   obtain ⟨wo, rfl⟩ : ∃ wo : World, wo = w1 := ⟨_, rfl⟩
   obtain ⟨go, rfl⟩ : ∃ go : Nat, go = gk := ⟨_, rfl⟩
   go_loopg [89] 0 (fun g9 i wb => i = .int .i64 0 /\ wb = wo)
   case atStart => exact ⟨rfl, rfl⟩
   case round =>
    obtain ⟨rfl, rfl⟩ := hrel
    go_wp2_with fail
    go_roundg (go - 1)
    case measure => omega
    case rel => exact ⟨j + 1, by omega, by go_num, HB, HX, HW⟩
  ·obtain rfl : j = tn := by omega
   go_wp2_with fail
   go_ret
   exact ⟨rfl, HW.o⟩
end Go.Proofs.YtgjdgapfnfhklaaGreat
namespace Go.Proofs.YtgjdgapfnfhklaaGreat
open Go.RowKit
abbrev pdL (p : Pd) : List Value := [.int .i64 p.1, .int .i64 p.2]
def pdVals (q : List Pd) : List Value := q.flatMap pdL
theorem pdVals_len (q : List Pd) : (pdVals q).length = q.length * 2 := flat_len _ 2 (fun _ => rfl) q
theorem pdVals_get {q : List Pd} {j : Nat} {p : Pd} (h : q[j]? = some p) (i : Nat) (hi : i < 2) : (pdVals q)[j * 2 + i]? = (pdL p)[i]? := flat_get _ 2 (fun _ => rfl) h i hi
theorem pdVals_app (q r : List Pd) : pdVals (q ++ r) = pdVals q ++ pdVals r := by simp [pdVals]
theorem pdL_one (p : Pd) : ∀ u ∈ pdL p, u.oneCell' = true := by intro u hu; simp at hu; rcases hu with rfl | rfl <;> rfl
structure Bf where
 hd : Hd
 q : List Pd
def Bf.blk (x : Bf) : Option Nat := (hdV x.hd).ownBlock
theorem Blk.ne {W : World} {t t' : TypeId} {cs cs' : List Value} {g g' : Nat} (h : Blk W g t cs) (h' : Blk W g' t' cs') (hne : t ≠ t') : g ≠ g' := by
 rintro rfl
 unfold Blk at h h'
 rw [h] at h'
 simp at h'
 exact hne h'.2
theorem Rw.ne {W : World} {t t' : TypeId} {sz n k : Nat} {xs cs' : List Value} {g g' : Nat} (h : Rw W g t sz n k xs) (h' : Blk W g' t' cs') (hne : t' ≠ t) : g' ≠ g := by
 obtain ⟨_, cs, h1, _⟩ := h
 exact h'.ne h1 hne
theorem own_nb {w : World} {B e s n g : Nat} {t : TypeId} {v : Value} {xs cs : List Value} (h : w.ownsRow B e s v n xs) (hB : Blk w g t cs) (hne : e ≠ t) : some g ≠ v.ownBlock := by
 intro he
 rcases h.2 with ⟨rfl, _⟩ | ⟨q, cap, cur, rfl, _, hg, _⟩
 ·cases he
 ·injection he with he
  subst he
  unfold Blk at hB
  rw [hB] at hg
  injection hg with hg
  injection hg with _ hg
  exact hne hg.symm
theorem own_nr {w : World} {B e s n g sz m k : Nat} {t : TypeId} {v : Value} {xs cs : List Value} (h : w.ownsRow B e s v n xs) (hB : Rw w g t sz m k cs) (hne : e ≠ t) : some g ≠ v.ownBlock := by
 obtain ⟨_, c, h1, _⟩ := hB
 exact own_nb h h1 hne
theorem Rw.grown {w w' : World} {g sz m k : Nat} {t : TypeId} {cs : List Value} {row : Option Nat} (h : Rw w g t sz m k cs) (hb : w.grownBy w' row) (hg : some g ≠ row) : Rw w' g t sz m k cs := h.kept (hb.block g h.lt hg)
structure StQ (W : World) (h : SH) (n nw : Nat) (S : LS) (bs : List Bf) : Prop where
 w : Rw W h.gw 3 1 nw h.kw (ints S.ws)
 r : Rw W h.gr 96 4 n h.kr (ints S.rs)
 p : Rw W h.gp 3 1 n h.kp (natsI S.ps)
 b : Rw W h.gb 161 1 n h.kb (bs.map fun x => hdV x.hd)
 own : ∀ x ∈ bs, x.hd.2.1 = x.q.length /\ W.ownsRow 0 180 2 (hdV x.hd) x.q.length (pdVals x.q)
 far : ∀ (i j : Nat) (x y : Bf), i ≠ j -> bs[i]? = some x -> bs[j]? = some y -> x.blk = none ∨ x.blk ≠ y.blk
 ne : h.gw ≠ h.gr /\ h.gw ≠ h.gp /\ h.gw ≠ h.gb /\ h.gr ≠ h.gp /\ h.gr ≠ h.gb /\ h.gp ≠ h.gb
section
variable {W W' : World} {h : SH} {n nw : Nat} {S : LS} {bs : List Bf}
theorem StQ.on (s : StQ W h n nw S bs) (hb : Below W.heap.size W W') : StQ W' h n nw S bs := ⟨s.w.on hb, s.r.on hb, s.p.on hb, s.b.on hb, fun x hx => ⟨(s.own x hx).1, (s.own x hx).2.below hb⟩, s.far, s.ne⟩
theorem StQ.wlen (s : StQ W h n nw S bs) : S.ws.length = nw := by have := s.w.1; rw [ints_len] at this; omega
theorem StQ.rlen (s : StQ W h n nw S bs) : S.rs.length = n * 4 := by have := s.r.1; rw [ints_len] at this; omega
theorem StQ.plen (s : StQ W h n nw S bs) : S.ps.length = n := by have := s.p.1; rw [natsI_len] at this; omega
theorem StQ.blen (s : StQ W h n nw S bs) : bs.length = n := by have := s.b.1; rw [List.length_map] at this; omega
theorem Rw.ownf {t : TypeId} {g sz m k : Nat} {cs : List Value} (hr : Rw W g t sz m k cs) {B e s n' : Nat} {v u : Value} {xs : List Value} (h : W.ownsRow B e s v n' xs) (i : Nat) (hne : e ≠ t) : (W.setCell ⟨g, i, none⟩ u).ownsRow B e s v n' xs := by
 obtain ⟨_, c, h1, _⟩ := hr
 exact own_far h h1 hne
theorem StQ.setW (s : StQ W h n nw S bs) (j : Nat) (z : Int) : StQ (W.setCell ⟨h.gw, j, none⟩ (.int .i64 z)) h n nw ⟨S.ws.set j z, S.rs, S.ps⟩ bs :=
 ⟨by have := s.w.set_ j (.int .i64 z); rwa [ints_set] at this, s.r.far (Ne.symm s.ne.1) _, s.p.far (Ne.symm s.ne.2.1) _, s.b.far (Ne.symm s.ne.2.2.1) _, fun x hx => ⟨(s.own x hx).1, s.w.ownf (s.own x hx).2 _ (by decide)⟩, s.far, s.ne⟩
theorem StQ.setR (s : StQ W h n nw S bs) (j : Nat) (z : Int) : StQ (W.setCell ⟨h.gr, j, none⟩ (.int .i64 z)) h n nw ⟨S.ws, S.rs.set j z, S.ps⟩ bs :=
 ⟨s.w.far s.ne.1 _, by have := s.r.set_ j (.int .i64 z); rwa [ints_set] at this, s.p.far (Ne.symm s.ne.2.2.2.1) _, s.b.far (Ne.symm s.ne.2.2.2.2.1) _, fun x hx => ⟨(s.own x hx).1, s.r.ownf (s.own x hx).2 _ (by decide)⟩, s.far, s.ne⟩
theorem StQ.setP (s : StQ W h n nw S bs) (j z : Nat) : StQ (W.setCell ⟨h.gp, j, none⟩ (.int .i64 z)) h n nw ⟨S.ws, S.rs, S.ps.set j z⟩ bs :=
 ⟨s.w.far s.ne.2.1 _, s.r.far s.ne.2.2.2.1 _, by have := s.p.set_ j (.int .i64 z); rwa [natsI_set] at this, s.b.far (Ne.symm s.ne.2.2.2.2.2) _, fun x hx => ⟨(s.own x hx).1, s.p.ownf (s.own x hx).2 _ (by decide)⟩, s.far, s.ne⟩
theorem StQ.wordc (s : StQ W h n nw S bs) {a : Nat} (ha : a < nw) : W.cell? ⟨h.gw, a, none⟩ = some (.int .i64 (S.w a)) := s.w.cell (ints_get (LS.w_at (by rw [s.wlen]; exact ha)))
theorem StQ.regc (s : StQ W h n nw S bs) {t rg : Nat} (ht : t < n) (hr : rg < 4) : W.cell? ⟨h.gr, t * 4 + rg, none⟩ = some (.int .i64 (S.r t rg)) := s.r.cell (ints_get (LS.r_at (by rw [s.rlen]; omega)))
theorem StQ.plc (s : StQ W h n nw S bs) {t : Nat} (ht : t < n) : W.cell? ⟨h.gp, t, none⟩ = some (.int .i64 (S.p t)) := s.p.cell (natsI_get (LS.p_at (by rw [s.plen]; exact ht)))
theorem StQ.bufc (s : StQ W h n nw S bs) {t : Nat} {x : Bf} (hx : bs[t]? = some x) : W.cell? ⟨h.gb, t, none⟩ = some (hdV x.hd) := s.b.cell (by rw [List.getElem?_map, hx]; rfl)
theorem StQ.nb (s : StQ W h n nw S bs) {x : Bf} (hx : x ∈ bs) : some h.gw ≠ x.blk /\ some h.gr ≠ x.blk /\ some h.gp ≠ x.blk /\ some h.gb ≠ x.blk :=
 ⟨own_nr (s.own x hx).2 s.w (by decide), own_nr (s.own x hx).2 s.r (by decide), own_nr (s.own x hx).2 s.p (by decide), own_nr (s.own x hx).2 s.b (by decide)⟩
theorem StQ.put (s : StQ W h n nw S bs) {t : Nat} {x : Bf} (hx : bs[t]? = some x) {A : Option Addr} {k : Nat} {q : List Pd} (hg : W.grownBy W' x.blk) (ho : W'.ownsRow 0 180 2 (.slice A q.length k) q.length (pdVals q))
  (hb : (Value.slice A q.length k).ownBlock = x.blk ∨ ∀ g, (Value.slice A q.length k).ownBlock = some g -> W.heap.size <= g) : StQ (W'.setCell ⟨h.gb, t, none⟩ (.slice A q.length k)) h n nw S (bs.set t ⟨(A, q.length, k), q⟩) := by
 have hm := List.mem_of_getElem? hx
 obtain ⟨n1, n2, n3, n4⟩ := s.nb hm
 have htl := (List.getElem?_eq_some_iff.1 hx).1
 have hB := s.b.grown hg n4
 have get : ∀ i y, (bs.set t ⟨(A, q.length, k), q⟩)[i]? = some y -> (i = t /\ y = ⟨(A, q.length, k), q⟩) ∨ (i ≠ t /\ bs[i]? = some y) := fun i y hy => by
  by_cases hi : t = i
  ·subst hi
   rw [List.getElem?_set_self htl] at hy
   injection hy with hy
   exact Or.inl ⟨rfl, hy.symm⟩
  ·rw [List.getElem?_set_ne hi] at hy
   exact Or.inr ⟨Ne.symm hi, hy⟩
 have old : ∀ i y, i ≠ t -> bs[i]? = some y -> y.blk = none ∨ y.blk ≠ (Bf.mk (A, q.length, k) q).blk := fun i y hi hy => by
  rcases hb with hb | hb
  ·have := s.far i t y x hi hy hx
   unfold Bf.blk at this ⊢
   rw [show (hdV (Bf.mk (A, q.length, k) q).hd).ownBlock = _ from hb]
   exact this
  ·by_cases hn : y.blk = none
   ·exact Or.inl hn
   ·refine Or.inr fun he => ?_
    obtain ⟨g, hg9⟩ := Option.ne_none_iff_exists'.1 hn
    have h1 := hb g (he.symm.trans hg9)
    have := ((s.own y (List.mem_of_getElem? hy)).2.lt g hg9).2
    omega
 refine ⟨(s.w.grown hg n1).far s.ne.2.2.1 _, (s.r.grown hg n2).far s.ne.2.2.2.2.1 _, (s.p.grown hg n3).far s.ne.2.2.2.2.2 _, ?_, fun y hy => ?_, fun i j y z hij hy hz => ?_, s.ne⟩
 ·have := hB.set_ t (.slice A q.length k)
  rw [List.map_set]
  exact this
 ·obtain ⟨i, hi⟩ := List.mem_iff_getElem?.1 hy
  rcases get i y hi with ⟨rfl, rfl⟩ | ⟨hit, hi⟩
  ·exact ⟨rfl, hB.ownf ho _ (by decide)⟩
  ·refine ⟨(s.own y (List.mem_of_getElem? hi)).1, hB.ownf ((s.own y (List.mem_of_getElem? hi)).2.kept hg ?_) _ (by decide)⟩
   exact s.far i t y x hit hi hx
 ·rcases get i y hy with ⟨rfl, rfl⟩ | ⟨hit, hy2⟩
  ·rcases get j z hz with ⟨rfl, rfl⟩ | ⟨hjt, hz2⟩
   ·exact absurd rfl hij
   ·rcases old j z hjt hz2 with h9 | h9
    ·by_cases h8 : (Bf.mk (A, q.length, k) q).blk = none
     ·exact Or.inl h8
     ·exact Or.inr (fun he => h8 (he.trans h9))
    ·exact Or.inr (Ne.symm h9)
  ·rcases get j z hz with ⟨rfl, rfl⟩ | ⟨hjt, hz2⟩
   ·exact old i y hit hy2
   ·exact s.far i j y z hij hy2 hz2
end
def SQ (h : SH) (bs : List Bf) (g : Nat) : Prop := g = h.gw ∨ g = h.gr ∨ g = h.gp ∨ g = h.gb ∨ ∃ x ∈ bs, x.blk = some g
theorem Fr.grown {F : Nat -> Prop} {W W' W'' : World} {row : Option Nat} (h : Fr F W W') (hg : W'.grownBy W'' row) (hr : ∀ g, row = some g -> F g) : Fr F W W'' :=
 ⟨hg.os.trans h.os, hg.tape.trans h.tape, hg.output.trans h.output, Nat.le_trans h.size hg.size, fun g hl hf => (hg.block g (Nat.lt_of_lt_of_le hl h.size) (fun he => hf (hr g he.symm))).trans (h.block g hl hf)⟩
def bf0 : Bf := ⟨(none, 0, 0), []⟩
def NilB (bs ds : List Bf) : Prop := (∀ x ∈ bs, x.hd.1 = none) -> ∀ y ∈ ds, y = bf0
theorem StAt.q {W : World} {h : SH} {n nw : Nat} {S : LS} (s : StAt W h n nw S) : StQ W h n nw S (List.replicate n bf0) := by
 refine ⟨s.w, s.r, s.p, ?_, fun x hx => ?_, fun i j x y _ hx _ => Or.inl ?_, s.ne⟩
 ·rw [List.map_replicate]
  exact s.b
 ·rw [(List.mem_replicate.1 hx).2]
  exact ⟨rfl, World.ownsRow_nil _ _ _ _⟩
 ·rw [(List.mem_replicate.1 (List.mem_of_getElem? hx)).2]
  rfl
theorem StQ.at {W : World} {h : SH} {n nw : Nat} {S : LS} {bs : List Bf} (s : StQ W h n nw S bs) (hn : ∀ y ∈ bs, y = bf0) : StAt W h n nw S := by
 refine ⟨s.w, s.r, s.p, ?_, s.ne⟩
 have h1 := s.b
 rw [List.eq_replicate_iff.2 ⟨s.blen, hn⟩, List.map_replicate] at h1
 exact h1
end Go.Proofs.YtgjdgapfnfhklaaGreat
namespace Go.Proofs.YtgjdgapfnfhklaaGreat
open Go.RowKit
inductive ReB (l : Lit) (o : Nat) : BS -> Prop
 | first : ReB l o (firstB l)
 | turn {B B' : BS} {u : Tn} : ReB l o B -> u ∈ turnsO l o -> turnB l o B u = some B' -> ReB l o B'
theorem turnsO_tn {l : Lit} {o : Nat} {u : Tn} (h : u ∈ turnsO l o) : ∃ t, t < l.tn /\ u.t = (t : Int) /\ (u = tnB t ∨ u.out = true) := by
 unfold turnsO at h
 obtain ⟨t, ht, h⟩ := List.mem_flatMap.1 h
 have ht := List.mem_range.1 ht
 rcases List.mem_cons.1 h with h | h
 ·subst h
  exact ⟨t, ht, rfl, Or.inl rfl⟩
 ·split at h
  ·rw [List.mem_singleton] at h
   subst h
   exact ⟨t, ht, rfl, Or.inr rfl⟩
  ·split at h
   ·obtain ⟨a, _, rfl⟩ := List.mem_map.1 h
    exact ⟨t, ht, rfl, Or.inr rfl⟩
   ·cases h
/-! buffers -/
theorem lastQ_none {a : Nat} : ∀ {q : List Pd}, (∀ p ∈ q, p.1 ≠ a) -> lastQ q a = none
 | [], _ => rfl
 | p :: q, h => by
  rw [lastQ, lastQ_none (fun r hr => h r (List.mem_cons_of_mem _ hr))]
  exact if_neg (h p (by simp))
theorem lastQ_one (p : Pd) (a : Nat) : lastQ [p] a = if p.1 = a then some p.2 else none := rfl
theorem outQ_spec {o : Nat} {a : Int} : ∀ {q : List Pd} {p : Pd} {r : List Pd}, outQ o a q = some (p, r) -> ∃ s s', q = s ++ p :: s' /\ r = s ++ s' /\ ∀ e ∈ s, e.1 ≠ p.1
 | [], p, r, h => by cases h
 | e :: q, p, r, h => by
  rw [outQ] at h
  split at h
  ·rename_i hc
   cases hq : outQ o a q with
   | none => rw [hq] at h; cases h
   | some y =>
    obtain ⟨y1, y2⟩ := y
    rw [hq] at h
    have h : some (y1, e :: y2) = some (p, r) := h
    injection h with h
    injection h with h1 h2
    subst h1 h2
    obtain ⟨s, s', e1, e2, e3⟩ := outQ_spec hq
    refine ⟨e :: s, s', by rw [e1]; rfl, by rw [e2]; rfl, fun z hz => ?_⟩
    rcases List.mem_cons.1 hz with hz | hz
    ·subst hz
     have : (y1.1 : Int) = a := outQ_adr hc.1 hq
     omega
    ·exact e3 z hz
  ·injection h with h
   injection h with h1 h2
   subst h1 h2
   exact ⟨[], q, rfl, rfl, fun z hz => by cases hz⟩
where
 outQ_adr {o : Nat} {a : Int} : o = 3 -> ∀ {q : List Pd} {p : Pd} {r : List Pd}, outQ o a q = some (p, r) -> (p.1 : Int) = a
  | _, [], p, r, h => by cases h
  | ho, e :: q, p, r, h => by
   rw [outQ] at h
   split at h
   ·cases hq : outQ o a q with
    | none => rw [hq] at h; cases h
    | some y =>
     obtain ⟨y1, y2⟩ := y
     rw [hq] at h
     have h : some (y1, e :: y2) = some (p, r) := h
     injection h with h
     injection h with h1 h2
     subst h1
     exact outQ_adr ho hq
   ·rename_i hc
    injection h with h
    injection h with h1 h2
    subst h1
    by_cases he : (e.1 : Int) = a
    ·exact he
    ·exact absurd ⟨ho, he⟩ hc
theorem outQ_last {o : Nat} {a : Int} {q r : List Pd} {p : Pd} (h : outQ o a q = some (p, r)) (c : Nat) :
  (c ≠ p.1 -> lastQ r c = lastQ q c) /\ (lastQ r p.1 = none -> lastQ q p.1 = some p.2) /\ (∀ v, lastQ r p.1 = some v -> lastQ q p.1 = some v) := by
 obtain ⟨s, s', e1, e2, e3⟩ := outQ_spec h
 have hs : lastQ s p.1 = none := lastQ_none e3
 have hp : ∀ c, lastQ (p :: s') c = match lastQ s' c with | some v => some v | none => if p.1 = c then some p.2 else none := fun c => rfl
 subst e1 e2
 refine ⟨fun hc => ?_, fun hn => ?_, fun v hv => ?_⟩
 ·rw [lastQ_app, lastQ_app, hp]
  cases lastQ s' c with
  | some v => rfl
  | none => rw [if_neg (Ne.symm hc)]
 ·rw [lastQ_app] at hn ⊢
  rw [hp]
  cases h9 : lastQ s' p.1 with
  | some v => rw [h9] at hn; cases hn
  | none => rw [if_pos rfl]
 ·rw [lastQ_app] at hv ⊢
  rw [hp]
  cases h9 : lastQ s' p.1 with
  | some v2 => rw [h9] at hv; exact hv
  | none => rw [h9, hs] at hv; cases hv
theorem b_set {B : BS} {t : Nat} (r : List Pd) (ht : t < B.q.length) (u : Nat) (S : LS) : BS.b ⟨S, B.q.set t r⟩ u = if u = t then r else B.b u := by
 show (B.q.set t r).getD u [] = _
 rw [List.getD_eq_getElem?_getD]
 split
 ·rename_i h
  subst h
  rw [List.getElem?_set_self ht]
  rfl
 ·rename_i h
  rw [List.getElem?_set_ne (Ne.symm h), <- List.getD_eq_getElem?_getD]
  rfl
theorem lget_set {l : List Int} {j : Nat} {v : Int} (hj : j < l.length) (i : Nat) : (l.set j v).getD i 0 = if i = j then v else l.getD i 0 := by
 rw [List.getD_eq_getElem?_getD]
 split
 ·rename_i h
  subst h
  rw [List.getElem?_set_self hj]
  rfl
 ·rename_i h
  rw [List.getElem?_set_ne (Ne.symm h), <- List.getD_eq_getElem?_getD]
theorem code_ok {l : Lit} (hok : okLit l = true) {t k : Nat} {i : Ins} (h : (codeOf l t)[k]? = some i) : okIns l.wn i = true := by
 unfold codeOf at h
 split at h
 ·rename_i y hy
  exact (okLit_code hok hy).2 i (List.mem_of_getElem? h)
 ·simp at h
theorem ins_adr {nw : Nat} {i : Ins} (h : okIns nw i = true) (hk : i.kind = 1 ∨ i.kind = 2 ∨ i.kind = 3) : i.addr.toNat < nw := by
 have : adrB nw i = true := by
  unfold okIns at h
  rcases hk with hk | hk | hk
  ·rw [if_pos (Or.inl hk), Bool.and_eq_true] at h; exact h.2
  ·rw [if_neg (by omega), if_pos hk, Bool.and_eq_true] at h; exact h.1
  ·rw [if_pos (Or.inr hk), Bool.and_eq_true] at h; exact h.2
 unfold adrB at this
 simp at this
 omega
end Go.Proofs.YtgjdgapfnfhklaaGreat
namespace Go.Proofs.YtgjdgapfnfhklaaGreat
open Go.RowKit
noncomputable def wput (ns : List BS) (B : BS) : Option (List BS) := @ite _ (B ∈ ns) (Classical.propDecidable _) (some ns) (if ns.length = 30000 then none else some (ns ++ [B]))
noncomputable def wstep (l : Lit) (o : Nat) (ns : List BS) (B : BS) (u : Tn) : Option (List BS) := match turnB l o B u with | none => some ns | some B' => wput ns B'
noncomputable def wrow (l : Lit) (o : Nat) (B : BS) : List Tn -> List BS -> Option (List BS)
 | [], ns => some ns
 | u :: us, ns => (wstep l o ns B u).bind fun ns' => wrow l o B us ns'
noncomputable def wbfs (l : Lit) (o : Nat) : Nat -> List BS -> Nat -> Option (List BS)
 | 0, ns, _ => some ns
 | f + 1, ns, i => match ns[i]? with
  | none => some ns
  | some B => (wrow l o B (turnsO l o) ns).bind fun ns' => wbfs l o f ns' (i + 1)
noncomputable def walkN (l : Lit) (o : Nat) : Option (List BS) := wbfs l o 30001 [firstB l] 0
theorem wput_old {ns : List BS} {B : BS} (h : B ∈ ns) : wput ns B = some ns := by unfold wput; rw [if_pos h]
theorem wput_many {ns : List BS} {B : BS} (h : B ∉ ns) (hm : ns.length = 30000) : wput ns B = none := by unfold wput; rw [if_neg h, if_pos hm]
theorem wput_new {ns : List BS} {B : BS} (h : B ∉ ns) (hm : ns.length ≠ 30000) : wput ns B = some (ns ++ [B]) := by unfold wput; rw [if_neg h, if_neg hm]
structure WOk (l : Lit) (o : Nat) (ns : List BS) : Prop where
 le : ns.length <= 30000
 re : ∀ B ∈ ns, ReB l o B
 nd : ns.Nodup
 first : firstB l ∈ ns
def ClB (l : Lit) (o : Nat) (ns : List BS) (B : BS) (u : Tn) : Prop := ∀ B', turnB l o B u = some B' -> B' ∈ ns
theorem wstep_cl {l : Lit} {o : Nat} {ns ns' : List BS} {B : BS} {u : Tn} (hW : WOk l o ns) (hB : B ∈ ns) (hu : u ∈ turnsO l o) (h : wstep l o ns B u = some ns') : WOk l o ns' /\ (∃ es, ns' = ns ++ es) /\ ClB l o ns' B u := by
 unfold wstep at h
 cases ht : turnB l o B u with
 | none =>
  rw [ht] at h
  injection h with h
  subst h
  exact ⟨hW, ⟨[], by simp⟩, fun B' h9 => by rw [ht] at h9; cases h9⟩
 | some B2 =>
  rw [ht] at h
  have h : wput ns B2 = some ns' := h
  by_cases hm : B2 ∈ ns
  ·rw [wput_old hm] at h
   injection h with h
   subst h
   exact ⟨hW, ⟨[], by simp⟩, fun B' h9 => by rw [ht] at h9; injection h9 with h9; subst h9; exact hm⟩
  ·by_cases hl : ns.length = 30000
   ·rw [wput_many hm hl] at h; cases h
   ·rw [wput_new hm hl] at h
    injection h with h
    subst h
    refine ⟨⟨?_, ?_, ?_, List.mem_append_left _ hW.first⟩, ⟨_, rfl⟩, fun B' h9 => by rw [ht] at h9; injection h9 with h9; subst h9; exact List.mem_append_right _ (by simp)⟩
    ·have := hW.le
     rw [List.length_append, List.length_singleton]
     omega
    ·intro B' hB'
     rcases List.mem_append.1 hB' with h9 | h9
     ·exact hW.re B' h9
     ·rw [List.mem_singleton] at h9
      subst h9
      exact ReB.turn (hW.re B hB) hu ht
    ·refine List.nodup_append.2 ⟨hW.nd, by simp, fun a ha b hb => ?_⟩
     rw [List.mem_singleton] at hb
     subst hb
     exact fun e => hm (e ▸ ha)
theorem wrow_cl {l : Lit} {o : Nat} {B : BS} : ∀ (us : List Tn) {ns ns' : List BS}, WOk l o ns -> B ∈ ns -> (∀ u ∈ us, u ∈ turnsO l o) -> wrow l o B us ns = some ns' -> WOk l o ns' /\ (∃ es, ns' = ns ++ es) /\ ∀ u ∈ us, ClB l o ns' B u
 | [], ns, ns', hW, hB, hu, h => by
  rw [wrow] at h
  injection h with h
  subst h
  exact ⟨hW, ⟨[], by simp⟩, fun u hu => by cases hu⟩
 | u :: us, ns, ns', hW, hB, hu, h => by
  rw [wrow] at h
  cases hs : wstep l o ns B u with
  | none => rw [hs] at h; cases h
  | some n1 =>
   rw [hs] at h
   have h : wrow l o B us n1 = some ns' := h
   obtain ⟨hW1, ⟨e1, he1⟩, hc1⟩ := wstep_cl hW hB (hu u (by simp)) hs
   obtain ⟨hW2, ⟨e2, he2⟩, hc2⟩ := wrow_cl us hW1 (by rw [he1]; exact List.mem_append_left _ hB) (fun v hv => hu v (List.mem_cons_of_mem _ hv)) h
   refine ⟨hW2, ⟨e1 ++ e2, by rw [he2, he1, List.append_assoc]⟩, fun v hv => ?_⟩
   rcases List.mem_cons.1 hv with rfl | hv
   ·intro B' h9
    rw [he2]
    exact List.mem_append_left _ (hc1 B' h9)
   ·exact hc2 v hv
theorem wbfs_cl {l : Lit} {o : Nat} : ∀ (f : Nat) {ns : List BS} {i : Nat} {ns' : List BS}, WOk l o ns -> 30001 <= f + i -> (∀ j B, j < i -> ns[j]? = some B -> ∀ u ∈ turnsO l o, ClB l o ns B u) -> wbfs l o f ns i = some ns' ->
  WOk l o ns' /\ ∀ B ∈ ns', ∀ u ∈ turnsO l o, ClB l o ns' B u := by
 have fin : ∀ {ns : List BS} {i : Nat}, WOk l o ns -> ns.length <= i -> (∀ j B, j < i -> ns[j]? = some B -> ∀ u ∈ turnsO l o, ClB l o ns B u) -> WOk l o ns /\ ∀ B ∈ ns, ∀ u ∈ turnsO l o, ClB l o ns B u := by
  intro ns i hW hi hc
  refine ⟨hW, fun B hB u hu => ?_⟩
  obtain ⟨j, hj⟩ := List.mem_iff_getElem?.1 hB
  exact hc j B (by have := (List.getElem?_eq_some_iff.1 hj).1; omega) hj u hu
 intro f
 induction f with
 | zero =>
  intro ns i ns' hW hf hc h
  rw [wbfs] at h
  injection h with h
  subst h
  exact fin hW (by have := hW.le; omega) hc
 | succ f ih =>
  intro ns i ns' hW hf hc h
  rw [wbfs] at h
  cases hx : ns[i]? with
  | none =>
   rw [hx] at h
   injection h with h
   subst h
   exact fin hW (List.getElem?_eq_none_iff.1 hx) hc
  | some B =>
   rw [hx] at h
   cases hr : wrow l o B (turnsO l o) ns with
   | none => simp only [hr] at h; cases h
   | some n1 =>
    simp only [hr] at h
    have h : wbfs l o f n1 (i + 1) = some ns' := h
    obtain ⟨hW1, ⟨e1, he1⟩, hc1⟩ := wrow_cl (turnsO l o) hW (List.mem_of_getElem? hx) (fun _ hu => hu) hr
    refine ih hW1 (by omega) (fun j C hj hC u hu => ?_) h
    have hi := (List.getElem?_eq_some_iff.1 hx).1
    have hC2 : ns[j]? = some C := by rwa [he1, List.getElem?_append_left (by omega)] at hC
    by_cases hji : j = i
    ·subst hji
     rw [hx] at hC2
     injection hC2 with hC2
     subst hC2
     exact hc1 u hu
    ·intro B' h9
     rw [he1]
     exact List.mem_append_left _ (hc j C (by omega) hC2 u hu B' h9)
theorem walkN_all {l : Lit} {o : Nat} {ns : List BS} (h : walkN l o = some ns) : (∀ B, B ∈ ns ↔ ReB l o B) /\ ns.Nodup := by
 obtain ⟨hW, hc⟩ := wbfs_cl 30001 (ns := [firstB l]) (i := 0) ⟨by simp, fun B hB => by rw [List.mem_singleton] at hB; subst hB; exact ReB.first, by simp, by simp⟩ (by omega) (fun j B hj => absurd hj (by omega)) h
 refine ⟨fun B => ⟨hW.re B, fun hB => ?_⟩, hW.nd⟩
 induction hB with
 | first => exact hW.first
 | turn _ hu ht ih => exact hc _ ih _ hu _ ht
/-! what holds of every state that is come to -/
structure OkB (l : Lit) (B : BS) : Prop where
 good : GoodS l B.S
 ql : B.q.length = l.tn
 buf : ∀ t, t < l.tn -> (B.b t).length <= B.S.p t /\ ∀ p ∈ B.b t, p.1 < l.wn
theorem OkB.first {l : Lit} (hl : l.ws.length = l.wn) : OkB l (firstB l) := by
 refine ⟨GoodS.first hl, by simp [firstB], fun t ht => ?_⟩
 have : (firstB l).b t = [] := by
  unfold firstB BS.b
  rw [List.getD_eq_getElem?_getD, List.getElem?_replicate]
  split <;> rfl
 rw [this]
 exact ⟨Nat.zero_le _, fun p hp => by cases hp⟩
end Go.Proofs.YtgjdgapfnfhklaaGreat
namespace Go.Proofs.YtgjdgapfnfhklaaGreat
open Go.RowKit
def finB (l : Lit) (B : BS) : Bool := (List.range l.tn).all fun t => decide ((codeOf l t).length <= B.S.p t) && (B.b t).isEmpty
theorem finB_iff {l : Lit} {B : BS} : finB l B = true ↔ ∀ t, t < l.tn -> (codeOf l t).length <= B.S.p t /\ B.b t = [] := by
 unfold finB
 rw [List.all_eq_true]
 constructor
 ·intro h t ht
  have := h t (List.mem_range.2 ht)
  simpa using this
 ·intro h t ht
  have := h t (List.mem_range.1 ht)
  simpa using this
def finK (B : BS) : List Int × List Int := (B.S.ws, B.S.rs)
end Go.Proofs.YtgjdgapfnfhklaaGreat
