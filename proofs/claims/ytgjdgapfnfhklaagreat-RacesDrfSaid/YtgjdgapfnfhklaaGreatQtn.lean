/-
tso.turn under the three orders, with buffers.
-/
import Derived.Test.YtgjdgapfnfhklaaGreatZ18
import Derived.Test.YtgjdgapfnfhklaaGreatZ15
set_option linter.unusedSimpArgs false
set_option linter.unusedVariables false
set_option maxRecDepth 100000
set_option maxHeartbeats 8000000
namespace Go.Proofs.YtgjdgapfnfhklaaGreat
open Go.RowKit
structure GoodQ (l : Lit) (S : LS) (bs : List Bf) : Prop where
 good : GoodS l S
 buf : ∀ y ∈ bs, y.q.length <= 10 /\ ∀ p ∈ y.q, p.1 < l.wn
def TurR (l : Lit) (o : Nat) (h : SH) (S : LS) (bs : List Bf) (u : Tn) (w : World) (e : Ending) (w' : World) : Prop :=
 e = .returned (.bool (turnB l o ⟨S, bs.map (·.q)⟩ u).isSome) /\ ∃ S' bs', StQ w' h l.tn l.wn S' bs' /\ NewB w bs bs' /\ Fr (SQ h bs) w w' /\ (⟨S', bs'.map (·.q)⟩ : BS) = (turnB l o ⟨S, bs.map (·.q)⟩ u).getD ⟨S, bs.map (·.q)⟩ /\ (o = 1 -> (∀ y ∈ bs, y.q = []) -> bs' = bs)
theorem TurR.no {l : Lit} {o : Nat} {h : SH} {S : LS} {bs : List Bf} {u : Tn} {w W : World} (hs : StQ w h l.tn l.wn S bs) (hn : turnB l o ⟨S, bs.map (·.q)⟩ u = none) (hb : Below w.heap.size w W) : TurR l o h S bs u w (.returned (.bool false)) W := by
 unfold TurR
 rw [hn]
 exact ⟨rfl, S, bs, hs.on hb, NewB.refl _ _, Fr.of hb, rfl, fun _ _ => rfl⟩
theorem doB_ps {late : Bool} {B B' : BS} {t c : Nat} {x : Ins} (h : doB late B t c x = some B') : B'.S.ps = advS B.S t c x := by
 unfold doB at h
 repeat' split at h
 all_goals first
  | (injection h with h; subst h; rfl)
  | cases h
theorem MidR.p {late : Bool} {S S' : LS} {bs bs' : List Bf} {t : Nat} {x : Ins} (h : MidR late S bs t x true S' bs') (h1 : t < S.ps.length) (h2 : t < S'.ps.length) : S'.p t = S.p t + skipS S t x := by
 have h3 := doB_ps ((h.1 (S'.p t + S.p t + skipS S t x + 5)).trans (if_pos rfl))
 have h3 : S'.ps.set t (min (S'.p t + 1) (S'.p t + S.p t + skipS S t x + 5)) = S.ps.set t (min (S.p t + skipS S t x + 1) (S'.p t + S.p t + skipS S t x + 5)) := h3
 have h4 : (S'.ps.set t (min (S'.p t + 1) (S'.p t + S.p t + skipS S t x + 5)))[t]? = (S.ps.set t (min (S.p t + skipS S t x + 1) (S'.p t + S.p t + skipS S t x + 5)))[t]? := by rw [h3]
 rw [List.getElem?_set_self h2, List.getElem?_set_self h1] at h4
 injection h4 with h4
 omega
theorem turnB_far {l : Lit} {o : Nat} {B : BS} {u : Tn} (h : ¬ (0 <= u.t /\ u.t < l.tn)) : turnB l o B u = none := by unfold turnB; rw [if_neg h]
theorem turnB_out {l : Lit} {o t : Nat} {B : BS} {a : Int} (h : t < l.tn) : turnB l o B ⟨t, true, a⟩ = (outQ o a (B.b t)).map fun y => ⟨⟨B.S.ws.set y.1.1 y.1.2, B.S.rs, B.S.ps⟩, B.q.set t y.2⟩ := by
 unfold turnB
 rw [if_pos ⟨by show (0 : Int) <= t; omega, by show (t : Int) < _; omega⟩, if_pos rfl]
 rfl
theorem turnB_ins {l : Lit} {o t : Nat} {B : BS} {a : Int} (h : t < l.tn) : turnB l o B ⟨t, false, a⟩ = match (codeOf l t)[B.S.p t]? with | none => none | some x => doB (!decide (o = 1)) B t (codeOf l t).length x := by
 unfold turnB
 rw [if_pos ⟨by show (0 : Int) <= t; omega, by show (t : Int) < _; omega⟩, if_neg (by simp)]
 rfl
theorem out_tur {l : Lit} {o t : Nat} {h : SH} {S : LS} {bs : List Bf} {y : Bf} {a : Int} {w W W' : World} {e : Ending} (ht : t < l.tn) (hy : bs[t]? = some y) (hb : Below w.heap.size w W) (h9 : OutR h l.tn l.wn S bs t y.q (outQ o a y.q) W e W') : TurR l o h S bs ⟨t, true, a⟩ w e W' := by
 obtain ⟨rfl, bs', h1, h2, h3, h4, h5⟩ := h9
 have hb2 := b_map hy S
 refine ⟨?_, outS S (outQ o a y.q), bs', h1, fun x hx g hg => (h3 x hx g hg).imp (Nat.le_trans hb.size) id, (Fr.of hb).trans h4, ?_, fun _ h9 => h5 (by rw [h9 y (List.mem_of_getElem? hy)]; rfl)⟩
 ·rw [turnB_out ht, hb2, Option.isSome_map]
 ·rw [turnB_out ht, hb2, h2]
  cases outQ o a y.q with
  | none =>
   have : (bs.map (·.q)).set t y.q = bs.map (·.q) := by
    apply List.ext_getElem?
    intro i
    by_cases hi : t = i
    ·subst hi
     rw [List.getElem?_set_self (by rw [List.length_map]; exact (List.getElem?_eq_some_iff.1 hy).1), List.getElem?_map, hy]
     rfl
    ·rw [List.getElem?_set_ne hi]
   show (⟨S, (bs.map (·.q)).set t y.q⟩ : BS) = ⟨S, bs.map (·.q)⟩
   rw [this]
  | some z => rfl
theorem turnQ_no (l : Lit) (o : Nat) (w : World) (gs : Nat) (h : SH) (S : LS) (bs : List Bf) (u : Tn) (hl : LitAt w w.heap.size l) (hs : StQ w h l.tn l.wn S bs) (hb : Blk w gs 77 (stL h l.tn l.wn)) (hg : GoodQ l S bs) (hok : okLit l = true) (hp : (0 <= u.t /\ u.t < l.tn /\ u.out = false) -> (codeOf l u.t.toNat)[S.p u.t.toNat]? = none) :
  Calls Tryz.prog 62 #[litV l, .int .i64 o, .pointer (some ⟨gs, 0, none⟩), tnV u] w (TurR l o h S bs u w) := by
 obtain ⟨n1, n2, n3, n4⟩ := okLit_num hok
 have HL := Lh hl
 have HS := Lh hs
 have HB := Lh hb
 have HG := Lh hg
 have HOk := Lh hok
 have HP := Lh hp
 obtain ⟨tb, to', hta, htb, _⟩ := hl.heads n1
 clear hl hs hb hg hok hp
 obtain ⟨wA, wn, wk, ws, tA, tn, tk, th⟩ := l
 have hta' : tA = some ⟨tb, to', none⟩ := hta
 subst hta'
 clear hta
 dsimp only at n1 n2 n3 n4
 obtain ⟨ut, uo, ua⟩ := u
 obtain ⟨r, hr⟩ : ∃ r, (decide (0 <= ut) && decide (ut < (tn : Int))) = r := ⟨_, rfl⟩
 have HWi : Hid (∀ W, Calls Tryz.prog 77 #[.int .i64 ut, .int .i64 tn] W (fun e w' => e = .returned (.bool r) /\ w' = W)) := fun W => win_b W hr
 cases r
 case false =>
  have HT := Lh (Blk.new (w.alloc (.cells #[.slice wA wn wk, .slice (some ⟨tb, to', none⟩) tn tk] 25)) 91 [.int .i64 ut, .bool uo, .int .i64 ua])
  have HL0 : Hid (Blk ((w.alloc (.cells #[.slice wA wn wk, .slice (some ⟨tb, to', none⟩) tn tk] 25)).alloc (.cells #[.int .i64 ut, .bool uo, .int .i64 ua] 91)) w.heap.size 25 [.slice wA wn wk, .slice (some ⟨tb, to', none⟩) tn tk]) := (Blk.new w 25 [.slice wA wn wk, .slice (some ⟨tb, to', none⟩) tn tk]).alloc _
  have HU0 : Hid (Blk ((w.alloc (.cells #[.slice wA wn wk, .slice (some ⟨tb, to', none⟩) tn tk] 25)).alloc (.cells #[.int .i64 ut, .bool uo, .int .i64 ua] 91)) (w.heap.size + 1) 91 [.int .i64 ut, .bool uo, .int .i64 ua]) := by
   have h9 := HT.o
   rw [World.size_alloc] at h9
   exact h9
  have HW0 : Hid (Below w.heap.size w ((w.alloc (.cells #[.slice wA wn wk, .slice (some ⟨tb, to', none⟩) tn tk] 25)).alloc (.cells #[.int .i64 ut, .bool uo, .int .i64 ua] 91))) := ((Below.refl _ _).alloc (Nat.le_refl _) _).alloc (by simp) _
  clear HT
  go_enter Tryz.func62, Tryz.ntmps62
  go_upto_region 1 with fail
  generalize (w.alloc (.cells #[.slice wA wn wk, .slice (some ⟨tb, to', none⟩) tn tk] 25)).alloc (.cells #[.int .i64 ut, .bool uo, .int .i64 ua] 91) = w0 at HL0 HU0 HW0 ⊢
  have q0 := HL0.o.cell (i := 0) rfl
  have q1 := HL0.o.cell (i := 1) rfl
  have u0 := HU0.o.cell (i := 0) rfl
  have u1 := HU0.o.cell (i := 1) rfl
  have u2 := HU0.o.cell (i := 2) rfl
  go_wp2_with fail
  refine (HWi.o _).mono ?_
  rintro e w1 ⟨rfl, rfl⟩
  go_wp2_with fail
  go_ret
  exact TurR.no HS.o (turnB_far (by show ¬ (0 <= ut /\ ut < (tn : Int)); simpa using hr)) HW0.o
 simp only [Bool.and_eq_true, decide_eq_true_eq] at hr
 obtain ⟨t, rfl⟩ : ∃ t : Nat, ut = t := ⟨ut.toNat, by omega⟩
 have hlt : t < tn := by omega
 have e0 : (0 : Int) <= t := by omega
 have e1 : (t : Int) < tn := by omega
 cases uo
 case true =>
  have HT := Lh (Blk.new (w.alloc (.cells #[.slice wA wn wk, .slice (some ⟨tb, to', none⟩) tn tk] 25)) 91 [.int .i64 t, .bool true, .int .i64 ua])
  have HL0 : Hid (Blk ((w.alloc (.cells #[.slice wA wn wk, .slice (some ⟨tb, to', none⟩) tn tk] 25)).alloc (.cells #[.int .i64 t, .bool true, .int .i64 ua] 91)) w.heap.size 25 [.slice wA wn wk, .slice (some ⟨tb, to', none⟩) tn tk]) := (Blk.new w 25 [.slice wA wn wk, .slice (some ⟨tb, to', none⟩) tn tk]).alloc _
  have HU0 : Hid (Blk ((w.alloc (.cells #[.slice wA wn wk, .slice (some ⟨tb, to', none⟩) tn tk] 25)).alloc (.cells #[.int .i64 t, .bool true, .int .i64 ua] 91)) (w.heap.size + 1) 91 [.int .i64 t, .bool true, .int .i64 ua]) := by
   have h9 := HT.o
   rw [World.size_alloc] at h9
   exact h9
  have HW0 : Hid (Below w.heap.size w ((w.alloc (.cells #[.slice wA wn wk, .slice (some ⟨tb, to', none⟩) tn tk] 25)).alloc (.cells #[.int .i64 t, .bool true, .int .i64 ua] 91))) := ((Below.refl _ _).alloc (Nat.le_refl _) _).alloc (by simp) _
  clear HT
  go_enter Tryz.func62, Tryz.ntmps62
  go_upto_region 1 with fail
  generalize (w.alloc (.cells #[.slice wA wn wk, .slice (some ⟨tb, to', none⟩) tn tk] 25)).alloc (.cells #[.int .i64 t, .bool true, .int .i64 ua] 91) = w0 at HL0 HU0 HW0 ⊢
  have q0 := HL0.o.cell (i := 0) rfl
  have q1 := HL0.o.cell (i := 1) rfl
  have u0 := HU0.o.cell (i := 0) rfl
  have u1 := HU0.o.cell (i := 1) rfl
  have u2 := HU0.o.cell (i := 2) rfl
  go_wp2_with fail
  refine (HWi.o _).mono ?_
  rintro e w1 ⟨rfl, rfl⟩
  go_wp2_with fail
  obtain ⟨y, hy⟩ := at_lt (show t < bs.length by rw [HS.o.blen]; exact hlt)
  have hyb := HG.o.buf y (List.mem_of_getElem? hy)
  refine (out_q o gs h tn wn S bs t y true ua w1 (HS.o.on HW0.o) (HB.o.below HW0.o HB.o.lt) hlt hy hyb.1 hyb.2).mono ?_
  intro e w2 h9
  obtain ⟨r9, hr9⟩ : ∃ r, r = outQ o ua y.q := ⟨_, rfl⟩
  have hT := Lh (out_tur (l := ⟨wA, wn, wk, ws, some ⟨tb, to', none⟩, tn, tk, th⟩) (o := o) hlt hy HW0.o h9)
  obtain ⟨he9, _⟩ := h9
  subst he9
  go_wp2_with fail
  go_ret
  exact hT.out
 have HT := Lh (Blk.new (w.alloc (.cells #[.slice wA wn wk, .slice (some ⟨tb, to', none⟩) tn tk] 25)) 91 [.int .i64 t, .bool false, .int .i64 ua])
 have HL0 : Hid (Blk ((w.alloc (.cells #[.slice wA wn wk, .slice (some ⟨tb, to', none⟩) tn tk] 25)).alloc (.cells #[.int .i64 t, .bool false, .int .i64 ua] 91)) w.heap.size 25 [.slice wA wn wk, .slice (some ⟨tb, to', none⟩) tn tk]) := (Blk.new w 25 [.slice wA wn wk, .slice (some ⟨tb, to', none⟩) tn tk]).alloc _
 have HU0 : Hid (Blk ((w.alloc (.cells #[.slice wA wn wk, .slice (some ⟨tb, to', none⟩) tn tk] 25)).alloc (.cells #[.int .i64 t, .bool false, .int .i64 ua] 91)) (w.heap.size + 1) 91 [.int .i64 t, .bool false, .int .i64 ua]) := by
  have h9 := HT.o
  rw [World.size_alloc] at h9
  exact h9
 have HW0 : Hid (Below w.heap.size w ((w.alloc (.cells #[.slice wA wn wk, .slice (some ⟨tb, to', none⟩) tn tk] 25)).alloc (.cells #[.int .i64 t, .bool false, .int .i64 ua] 91))) := ((Below.refl _ _).alloc (Nat.le_refl _) _).alloc (by simp) _
 clear HT
 go_enter Tryz.func62, Tryz.ntmps62
 go_upto_region 1 with fail
 generalize (w.alloc (.cells #[.slice wA wn wk, .slice (some ⟨tb, to', none⟩) tn tk] 25)).alloc (.cells #[.int .i64 t, .bool false, .int .i64 ua] 91) = w0 at HL0 HU0 HW0 ⊢
 have q0 := HL0.o.cell (i := 0) rfl
 have q1 := HL0.o.cell (i := 1) rfl
 have u0 := HU0.o.cell (i := 0) rfl
 have u1 := HU0.o.cell (i := 1) rfl
 have u2 := HU0.o.cell (i := 2) rfl
 obtain ⟨x, hx⟩ := at_lt (show t < th.length by have := HL.o.tlen; dsimp only at this; omega)
 have hL := HL.o.keep HW0.o
 obtain ⟨tb2, to2, hta2, htb2, htc⟩ := hL.head hx
 injection hta2 with hta2
 injection hta2 with e1 e2
 subst e1 e2
 have hcl := hL.clen (List.mem_of_getElem? hx)
 have hco := (hL.code x (List.mem_of_getElem? hx)).2.1
 have hn1 := hco.1
 have hn2 := hco.2
 unfold maxLen at hn2
 have h10 := (okLit_code HOk.o hx).1
 have HX := Lh hx
 have HCl := Lh hcl
 have HLK := Lh hL
 clear hx hco hL hcl
 obtain ⟨⟨xA, xn, xk⟩, code⟩ := x
 dsimp only at hn1 hn2 htc h10
 have hpt := (HS.o.on HW0.o).plc hlt
 have s2 := (HB.o.below HW0.o HB.o.lt).cell (i := 2) rfl
 have hnone : (codeOf ⟨wA, wn, wk, ws, some ⟨tb, to', none⟩, tn, tk, th⟩ t)[S.p t]? = none := HP.o ⟨e0, e1, rfl⟩
 have hge : xn <= S.p t := by
  have h9 := hnone
  rw [codeOf_at HX.o, List.getElem?_eq_none_iff] at h9
  have := HCl.o
  dsimp only at h9 this
  omega
 have HNo := Lh (show turnB ⟨wA, wn, wk, ws, some ⟨tb, to', none⟩, tn, tk, th⟩ o ⟨S, bs.map (·.q)⟩ ⟨t, false, ua⟩ = none by rw [turnB_ins hlt]; dsimp only; rw [hnone])
 clear hnone
 have d1 : decide ((xn : Int) <= S.p t) = true := by simp; omega
 have d2 : (xn : Int) <= S.p t := by omega
 go_wp2_with fail
 refine (HWi.o _).mono ?_
 rintro e w1 ⟨rfl, rfl⟩
 go_wp2_with fail
 go_upto_region 6 with fail
 go_quiet (fail)
 go_wp2_with fail
 go_ret
 exact TurR.no HS.o HNo.o (HW0.o.trans ((Below.refl _ _).drewN _))
theorem size_rules : (Tryz.prog.info? 194).map (·.size) = some 8 := by kernel_rfl
theorem rules_one (gk : Nat) : (#[.nilFunc, .func (.func 79) #[.pointer (some ⟨gk, 0, none⟩)] #[], .func (.func 80) #[.pointer (some ⟨gk, 0, none⟩)] #[], .func (.func 81) #[.pointer (some ⟨gk, 0, none⟩)] #[], .func (.func 82) #[.pointer (some ⟨gk, 0, none⟩)] #[], .func (.func 83) #[.pointer (some ⟨gk, 0, none⟩)] #[], .func (.func 84) #[.pointer (some ⟨gk, 0, none⟩)] #[], .func (.func 85) #[.pointer (some ⟨gk, 0, none⟩)] #[]] : Array Value).all (·.oneCell') = true := by simp [Value.oneCell']
theorem turnQ_yes (l : Lit) (o : Nat) (w : World) (gs : Nat) (h : SH) (S : LS) (bs : List Bf) (u : Tn) (x9 : Ins) (hl : LitAt w w.heap.size l) (hs : StQ w h l.tn l.wn S bs) (hb : Blk w gs 77 (stL h l.tn l.wn)) (hg : GoodQ l S bs) (hok : okLit l = true) (hu : 0 <= u.t /\ u.t < l.tn /\ u.out = false) (hp : (codeOf l u.t.toNat)[S.p u.t.toNat]? = some x9) :
  Calls Tryz.prog 62 #[litV l, .int .i64 o, .pointer (some ⟨gs, 0, none⟩), tnV u] w (TurR l o h S bs u w) := by
 obtain ⟨n1, n2, n3, n4⟩ := okLit_num hok
 have HL := Lh hl
 have HS := Lh hs
 have HB := Lh hb
 have HG := Lh hg
 have HOk := Lh hok
 have HP := Lh hp
 obtain ⟨tb, to', hta, htb, _⟩ := hl.heads n1
 clear hl hs hb hg hok hp
 obtain ⟨wA, wn, wk, ws, tA, tn, tk, th⟩ := l
 have hta' : tA = some ⟨tb, to', none⟩ := hta
 subst hta'
 clear hta
 dsimp only at n1 n2 n3 n4
 obtain ⟨ut, uo, ua⟩ := u
 have hr : (0 <= ut /\ ut < (tn : Int) /\ uo = false) := hu
 obtain ⟨hr1, hr2, rfl⟩ := hr
 obtain ⟨t, rfl⟩ : ∃ t : Nat, ut = t := ⟨ut.toNat, by omega⟩
 have HWi : Hid (∀ W, Calls Tryz.prog 77 #[.int .i64 t, .int .i64 tn] W (fun e w' => e = .returned (.bool true) /\ w' = W)) := fun W => win_b W (by simp; omega)
 have hlt : t < tn := by omega
 have e0 : (0 : Int) <= t := by omega
 have e1 : (t : Int) < tn := by omega
 have HT := Lh (Blk.new (w.alloc (.cells #[.slice wA wn wk, .slice (some ⟨tb, to', none⟩) tn tk] 25)) 91 [.int .i64 t, .bool false, .int .i64 ua])
 have HL0 : Hid (Blk ((w.alloc (.cells #[.slice wA wn wk, .slice (some ⟨tb, to', none⟩) tn tk] 25)).alloc (.cells #[.int .i64 t, .bool false, .int .i64 ua] 91)) w.heap.size 25 [.slice wA wn wk, .slice (some ⟨tb, to', none⟩) tn tk]) := (Blk.new w 25 [.slice wA wn wk, .slice (some ⟨tb, to', none⟩) tn tk]).alloc _
 have HU0 : Hid (Blk ((w.alloc (.cells #[.slice wA wn wk, .slice (some ⟨tb, to', none⟩) tn tk] 25)).alloc (.cells #[.int .i64 t, .bool false, .int .i64 ua] 91)) (w.heap.size + 1) 91 [.int .i64 t, .bool false, .int .i64 ua]) := by
  have h9 := HT.o
  rw [World.size_alloc] at h9
  exact h9
 have HW0 : Hid (Below w.heap.size w ((w.alloc (.cells #[.slice wA wn wk, .slice (some ⟨tb, to', none⟩) tn tk] 25)).alloc (.cells #[.int .i64 t, .bool false, .int .i64 ua] 91))) := ((Below.refl _ _).alloc (Nat.le_refl _) _).alloc (by simp) _
 clear HT
 go_enter Tryz.func62, Tryz.ntmps62
 go_upto_region 1 with fail
 generalize (w.alloc (.cells #[.slice wA wn wk, .slice (some ⟨tb, to', none⟩) tn tk] 25)).alloc (.cells #[.int .i64 t, .bool false, .int .i64 ua] 91) = w0 at HL0 HU0 HW0 ⊢
 have q0 := HL0.o.cell (i := 0) rfl
 have q1 := HL0.o.cell (i := 1) rfl
 have u0 := HU0.o.cell (i := 0) rfl
 have u1 := HU0.o.cell (i := 1) rfl
 have u2 := HU0.o.cell (i := 2) rfl
 obtain ⟨x, hx⟩ := at_lt (show t < th.length by have := HL.o.tlen; dsimp only at this; omega)
 have hL := HL.o.keep HW0.o
 obtain ⟨tb2, to2, hta2, htb2, htc⟩ := hL.head hx
 injection hta2 with hta2
 injection hta2 with e1 e2
 subst e1 e2
 have hcl := hL.clen (List.mem_of_getElem? hx)
 have hco := (hL.code x (List.mem_of_getElem? hx)).2.1
 have hn1 := hco.1
 have hn2 := hco.2
 unfold maxLen at hn2
 have h10 := (okLit_code HOk.o hx).1
 have HX := Lh hx
 have HCl := Lh hcl
 have HLK := Lh hL
 clear hx hco hL hcl
 obtain ⟨⟨xA, xn, xk⟩, code⟩ := x
 dsimp only at hn1 hn2 htc h10
 have hpt := (HS.o.on HW0.o).plc hlt
 have s2 := (HB.o.below HW0.o HB.o.lt).cell (i := 2) rfl
 have hp9 : code[S.p t]? = some x9 := by
  have h9 := HP.o
  dsimp only at h9
  rwa [Int.toNat_natCast, codeOf_at HX.o] at h9
 have hlt2 : S.p t < xn := by
  have := HCl.o
  have := (List.getElem?_eq_some_iff.1 hp9).1
  dsimp only at *
  omega
 have HTS2 := Lh (show turnB ⟨wA, wn, wk, ws, some ⟨tb, to', none⟩, tn, tk, th⟩ o ⟨S, bs.map (·.q)⟩ ⟨t, false, ua⟩ = doB (!decide (o = 1)) ⟨S, bs.map (·.q)⟩ t xn x9 by
  rw [turnB_ins hlt, codeOf_at HX.o]
  dsimp only
  rw [hp9]
  dsimp only
  have := HCl.o
  dsimp only at this
  rw [this])
 obtain ⟨y, hy⟩ := at_lt (show t < bs.length by rw [HS.o.blen]; exact hlt)
 have hyb := HG.o.buf y (List.mem_of_getElem? hy)
 obtain ⟨late, hlate⟩ : ∃ late, late = !decide (o = 1) := ⟨_, rfl⟩
 have hok9 := (okLit_code HOk.o HX.o).2 x9 (List.mem_of_getElem? hp9)
 have hL2 := HL.o.keep HW0.o
 obtain ⟨cb, co, hca, hcb, hc⟩ := ins_cell (hL2.code _ (List.mem_of_getElem? HX.o)).1 hp9
 have hca' : xA = some ⟨cb, co, none⟩ := hca
 subst hca'
 have HOk9 := Lh hok9
 clear hca hL2 hp9 hok9
 obtain ⟨kd, rg, ad, vl, sr, od, ct⟩ := x9
 have c0 := hc.c0
 have c1 := hc.c1
 have c2 := hc.c2
 have c3 := hc.c3
 have c4 := hc.c4
 have c5 := hc.c5
 have c6 := hc.c6
 dsimp only at c0 c1 c2 c3 c4 c5 c6
 clear hc
 have d1 : decide ((xn : Int) <= S.p t) = false := by simp; omega
 have d2 : ¬ (xn : Int) <= S.p t := by omega
 have f0 : (0 : Int) <= S.p t := by omega
 have f1 : (S.p t : Int) < xn := by omega
 go_wp2_with fail
 refine (HWi.o _).mono ?_
 rintro e w1 ⟨rfl, rfl⟩
 go_wp2_with fail
 go_upto_region 6 with fail
 go_quiet (fail)
 obtain ⟨V, hV, HVb⟩ : ∃ V, V = w1.drewN nq /\ Below w1.heap.size w1 V := ⟨_, rfl, (Below.refl _ _).drewN _⟩
 rw [<- hV]
 have HB1 := Lh (HVb)
 have v0 : V.cell? ⟨cb, co + S.p t * 7, none⟩ = some (.int .i64 kd) := by rw [hV]; exact c0
 have v1 : V.cell? ⟨cb, co + S.p t * 7 + 1, none⟩ = some (.int .i64 rg) := by rw [hV]; exact c1
 have v2 : V.cell? ⟨cb, co + S.p t * 7 + 2, none⟩ = some (.int .i64 ad) := by rw [hV]; exact c2
 have v3 : V.cell? ⟨cb, co + S.p t * 7 + 3, none⟩ = some (.int .i64 vl) := by rw [hV]; exact c3
 have v4 : V.cell? ⟨cb, co + S.p t * 7 + 4, none⟩ = some (.int .i64 sr) := by rw [hV]; exact c4
 have v5 : V.cell? ⟨cb, co + S.p t * 7 + 5, none⟩ = some (.int .i64 od) := by rw [hV]; exact c5
 have v6 : V.cell? ⟨cb, co + S.p t * 7 + 6, none⟩ = some (.int .i64 ct) := by rw [hV]; exact c6
 clear hV c0 c1 c2 c3 c4 c5 c6 hpt s2 htc q0 q1 u0 u1 u2 HVb
 have HWV := Lh (HW0.o.trans (HB1.o.mono HW0.o.size))
 have HLV := Lh (HL0.o.below HB1.o HL0.o.lt)
 have HUV := Lh (HU0.o.below HB1.o HU0.o.lt)
 clear HB1 HL0 HU0 HW0
 go_upto_region 10 with fail
 obtain ⟨gi, hgi⟩ : ∃ gi, gi = V.heap.size := ⟨_, rfl⟩
 obtain ⟨X, hX, HXi, HXb⟩ : ∃ X, X = V.alloc (.cells #[.int .i64 kd, .int .i64 rg, .int .i64 ad, .int .i64 vl, .int .i64 sr, .int .i64 od, .int .i64 ct] 68) /\ Hid (Blk X gi 68 [.int .i64 kd, .int .i64 rg, .int .i64 ad, .int .i64 vl, .int .i64 sr, .int .i64 od, .int .i64 ct]) /\ Below V.heap.size V X := ⟨_, rfl, by rw [hgi]; exact Blk.new _ _ _, (Below.refl _ _).alloc (Nat.le_refl _) _⟩
 rw [<- hX, <- hgi]
 have HLX := Lh (HLV.o.below HXb HLV.o.lt)
 have HUX := Lh (HUV.o.below HXb HUV.o.lt)
 have HWX := Lh (HWV.o.trans (HXb.mono HWV.o.size))
 have hgl : w.heap.size + 1 < gi := by have := HUV.o.lt; omega
 clear hX HXb HLV HUV HWV v0 v1 v2 v3 v4 v5 v6 hgi
 have j0 := HXi.o.cell (i := 0) rfl
 have j1 := HXi.o.cell (i := 1) rfl
 have j2 := HXi.o.cell (i := 2) rfl
 have j3 := HXi.o.cell (i := 3) rfl
 have j4 := HXi.o.cell (i := 4) rfl
 have j5 := HXi.o.cell (i := 5) rfl
 have j6 := HXi.o.cell (i := 6) rfl
 have u0 := HUX.o.cell (i := 0) rfl
 have d3 : ((o : Int) != 1) = late := by
  rw [hlate]
  by_cases h1 : o = 1
  ·subst h1; rfl
  ·have : ¬ (o : Int) = 1 := by omega
   simp [h1, this]
 go_upto_region 11 with fail
 rw [<- hlate]
 obtain ⟨gk, hgk⟩ : ∃ gk, gk = X.heap.size := ⟨_, rfl⟩
 obtain ⟨Y, hY, HKY, HYb⟩ : ∃ Y, Y = X.alloc (.cells #[.pointer (some ⟨gs, 0, none⟩), .int .i64 kd, .int .i64 rg, .int .i64 ad, .int .i64 vl, .int .i64 sr, .int .i64 od, .int .i64 ct, .int .i64 t, .bool late] 193) /\ Hid (Blk Y gk 193 [.pointer (some ⟨gs, 0, none⟩), .int .i64 kd, .int .i64 rg, .int .i64 ad, .int .i64 vl, .int .i64 sr, .int .i64 od, .int .i64 ct, .int .i64 t, .bool late]) /\ Below X.heap.size X Y := ⟨_, rfl, by rw [hgk]; exact Blk.new _ _ _, (Below.refl _ _).alloc (Nat.le_refl _) _⟩
 rw [<- hY, <- hgk]
 have HIY := Lh (HXi.o.below HYb HXi.o.lt)
 have HUY := Lh (HUX.o.below HYb HUX.o.lt)
 have HWY := Lh (HWX.o.trans (HYb.mono HWX.o.size))
 have hgl2 : gi < gk := by have := HXi.o.lt; omega
 clear hY HYb HLX HUX HWX HXi hgk j0 j1 j2 j3 j4 j5 j6 u0 d3
 have hmf : ∀ fn first cap w, (Instr.makeFunc fn first cap).run Tryz.prog w = .ok (.func fn first cap) w := fun _ _ _ _ => rfl
 go_upto_region 12 with (refine wpList_store_row rfl _ _ _ rfl Y.heap.size #[.nilFunc, .func (.func 79) #[.pointer (some ⟨gk, 0, none⟩)] #[], .func (.func 80) #[.pointer (some ⟨gk, 0, none⟩)] #[], .func (.func 81) #[.pointer (some ⟨gk, 0, none⟩)] #[], .func (.func 82) #[.pointer (some ⟨gk, 0, none⟩)] #[], .func (.func 83) #[.pointer (some ⟨gk, 0, none⟩)] #[], .func (.func 84) #[.pointer (some ⟨gk, 0, none⟩)] #[], .func (.func 85) #[.pointer (some ⟨gk, 0, none⟩)] #[]] rfl rfl 194 _ (Blk.new Y 194 [.nilFunc, .nilFunc, .nilFunc, .nilFunc, .nilFunc, .nilFunc, .nilFunc, .nilFunc]) size_rules rfl (rules_one gk) ?_)
 simp only [Act.put]
 go_upto_region 12 with fail
 obtain ⟨gu, hgu⟩ : ∃ gu, gu = Y.heap.size := ⟨_, rfl⟩
 obtain ⟨Z, hZ, HRZ, HZb⟩ : ∃ Z, Z = (Y.alloc (.cells #[.nilFunc, .nilFunc, .nilFunc, .nilFunc, .nilFunc, .nilFunc, .nilFunc, .nilFunc] 194)).setRow Y.heap.size #[.nilFunc, .func (.func 79) #[.pointer (some ⟨gk, 0, none⟩)] #[], .func (.func 80) #[.pointer (some ⟨gk, 0, none⟩)] #[], .func (.func 81) #[.pointer (some ⟨gk, 0, none⟩)] #[], .func (.func 82) #[.pointer (some ⟨gk, 0, none⟩)] #[], .func (.func 83) #[.pointer (some ⟨gk, 0, none⟩)] #[], .func (.func 84) #[.pointer (some ⟨gk, 0, none⟩)] #[], .func (.func 85) #[.pointer (some ⟨gk, 0, none⟩)] #[]] /\ Hid (Blk Z gu 194 [.nilFunc, .func (.func 79) #[.pointer (some ⟨gk, 0, none⟩)] #[], .func (.func 80) #[.pointer (some ⟨gk, 0, none⟩)] #[], .func (.func 81) #[.pointer (some ⟨gk, 0, none⟩)] #[], .func (.func 82) #[.pointer (some ⟨gk, 0, none⟩)] #[], .func (.func 83) #[.pointer (some ⟨gk, 0, none⟩)] #[], .func (.func 84) #[.pointer (some ⟨gk, 0, none⟩)] #[], .func (.func 85) #[.pointer (some ⟨gk, 0, none⟩)] #[]]) /\ Below Y.heap.size Y Z := ⟨_, rfl, by rw [hgu]; exact setRow_heap _ _ _ #[.nilFunc, .func (.func 79) #[.pointer (some ⟨gk, 0, none⟩)] #[], .func (.func 80) #[.pointer (some ⟨gk, 0, none⟩)] #[], .func (.func 81) #[.pointer (some ⟨gk, 0, none⟩)] #[], .func (.func 82) #[.pointer (some ⟨gk, 0, none⟩)] #[], .func (.func 83) #[.pointer (some ⟨gk, 0, none⟩)] #[], .func (.func 84) #[.pointer (some ⟨gk, 0, none⟩)] #[], .func (.func 85) #[.pointer (some ⟨gk, 0, none⟩)] #[]] _ _ (Blk.new Y 194 [.nilFunc, .nilFunc, .nilFunc, .nilFunc, .nilFunc, .nilFunc, .nilFunc, .nilFunc]), rowB ((Below.refl _ _).alloc (Nat.le_refl _) _) (Nat.le_refl _)⟩
 rw [<- hZ, <- hgu]
 have HIZ := Lh (HIY.o.below HZb HIY.o.lt)
 have HUZ := Lh (HUY.o.below HZb HUY.o.lt)
 have HWZ := Lh (HWY.o.trans (HZb.mono HWY.o.size))
 have HKZ : Hid (WkQ Z gk gs h tn wn S bs t ⟨kd, rg, ad, vl, sr, od, ct⟩ late) := ⟨HKY.o.below HZb HKY.o.lt, HB.o.below HWZ.o HB.o.lt, HS.o.on HWZ.o, hlt, n2, n4⟩
 have hp10 : S.p t <= 10 := by omega
 clear hZ HZb HKY HIY HUY HWY hmf hgu
 have j0 := HIZ.o.cell (i := 0) rfl
 go_cut [77] (fun s wc => ∃ b S' bs', s = .bool (!b) /\ Hid (StQ wc h tn wn S' bs' /\ NewB Z bs bs' /\ Fr (SQ h bs) Z wc /\ MidR late S bs t ⟨kd, rg, ad, vl, sr, od, ct⟩ b S' bs'))
 case first =>
  have hkk : kd = 1 ∨ kd = 2 ∨ kd = 3 ∨ kd = 4 ∨ kd = 5 ∨ kd = 6 ∨ kd = 7 := by
   have h9 := HOk9.o
   unfold okIns at h9
   by_cases k1 : kd = 1 ∨ kd = 3
   ·omega
   ·rw [if_neg k1] at h9
    by_cases k2 : kd = 2
    ·omega
    ·rw [if_neg k2] at h9
     by_cases k3 : kd = 4
     ·omega
     ·rw [if_neg k3] at h9
      by_cases k4 : kd = 5 ∨ kd = 6
      ·omega
      ·rw [if_neg k4] at h9
       by_cases k5 : kd = 7
       ·omega
       ·rw [if_neg k5] at h9
        cases h9
  rcases hkk with rfl | hkk
  ·have j1 : Z.cell? ⟨gu, 1, none⟩ = some (.func (.func 79) #[.pointer (some ⟨gk, 0, none⟩)] #[]) := HRZ.o.cell rfl
   go_wp2_with fail
   refine (ruleQ_load HKZ.o hy rfl HOk9.o).mono ?_
   rintro e wq ⟨b9, S9, bs9, rfl, hq1, hq2, hq3, hq4⟩
   go_wp2_with fail
   go_meet
   exact ⟨b9, S9, bs9, rfl, hq1, hq2, hq3, hq4⟩
  rcases hkk with rfl | hkk
  ·have j1 : Z.cell? ⟨gu, 2, none⟩ = some (.func (.func 80) #[.pointer (some ⟨gk, 0, none⟩)] #[]) := HRZ.o.cell rfl
   go_wp2_with fail
   refine (ruleQ_store HKZ.o hy hyb.1 rfl HOk9.o).mono ?_
   rintro e wq ⟨b9, S9, bs9, rfl, hq1, hq2, hq3, hq4⟩
   go_wp2_with fail
   go_meet
   exact ⟨b9, S9, bs9, rfl, hq1, hq2, hq3, hq4⟩
  rcases hkk with rfl | hkk
  ·have j1 : Z.cell? ⟨gu, 3, none⟩ = some (.func (.func 81) #[.pointer (some ⟨gk, 0, none⟩)] #[]) := HRZ.o.cell rfl
   go_wp2_with fail
   refine (ruleQ_swap HKZ.o hy rfl HOk9.o).mono ?_
   rintro e wq ⟨b9, S9, bs9, rfl, hq1, hq2, hq3, hq4⟩
   go_wp2_with fail
   go_meet
   exact ⟨b9, S9, bs9, rfl, hq1, hq2, hq3, hq4⟩
  rcases hkk with rfl | hkk
  ·have j1 : Z.cell? ⟨gu, 4, none⟩ = some (.func (.func 82) #[.pointer (some ⟨gk, 0, none⟩)] #[]) := HRZ.o.cell rfl
   go_wp2_with fail
   refine (ruleQ_fence HKZ.o hy rfl).mono ?_
   rintro e wq ⟨b9, S9, bs9, rfl, hq1, hq2, hq3, hq4⟩
   go_wp2_with fail
   go_meet
   exact ⟨b9, S9, bs9, rfl, hq1, hq2, hq3, hq4⟩
  rcases hkk with rfl | hkk
  ·have j1 : Z.cell? ⟨gu, 5, none⟩ = some (.func (.func 83) #[.pointer (some ⟨gk, 0, none⟩)] #[]) := HRZ.o.cell rfl
   go_wp2_with fail
   refine (ruleQ_set HKZ.o hy rfl HOk9.o).mono ?_
   rintro e wq ⟨b9, S9, bs9, rfl, hq1, hq2, hq3, hq4⟩
   go_wp2_with fail
   go_meet
   exact ⟨b9, S9, bs9, rfl, hq1, hq2, hq3, hq4⟩
  rcases hkk with rfl | hkk
  ·have j1 : Z.cell? ⟨gu, 6, none⟩ = some (.func (.func 84) #[.pointer (some ⟨gk, 0, none⟩)] #[]) := HRZ.o.cell rfl
   go_wp2_with fail
   refine (ruleQ_add HKZ.o hy rfl HOk9.o).mono ?_
   rintro e wq ⟨b9, S9, bs9, rfl, hq1, hq2, hq3, hq4⟩
   go_wp2_with fail
   go_meet
   exact ⟨b9, S9, bs9, rfl, hq1, hq2, hq3, hq4⟩
  subst hkk
  ·have j1 : Z.cell? ⟨gu, 7, none⟩ = some (.func (.func 85) #[.pointer (some ⟨gk, 0, none⟩)] #[]) := HRZ.o.cell rfl
   go_wp2_with fail
   refine (ruleQ_skip HKZ.o hy rfl HOk9.o hp10).mono ?_
   rintro e wq ⟨b9, S9, bs9, rfl, hq1, hq2, hq3, hq4⟩
   go_wp2_with fail
   go_meet
   exact ⟨b9, S9, bs9, rfl, hq1, hq2, hq3, hq4⟩
 case rest =>
  obtain ⟨b9, S9, bs9, rfl, HM⟩ := hcut
  obtain ⟨Q, rfl⟩ : ∃ Q : World, Q = wc := ⟨_, rfl⟩
  clear j0
  have HNw : Hid (NewB w bs bs9) := fun x hx g hg => (HM.o.2.1 x hx g hg).imp (Nat.le_trans HWZ.o.size) id
  have HFr : Hid (Fr (SQ h bs) w Q) := (Fr.of HWZ.o).trans HM.o.2.2.1
  cases b9 with
  | false =>
   have HMn := HM.o.2.2.2
   obtain ⟨e1', e2'⟩ := HMn.2.1 rfl
   have HNo := Lh (show turnB ⟨wA, wn, wk, ws, some ⟨tb, to', none⟩, tn, tk, th⟩ o ⟨S, bs.map (·.q)⟩ ⟨t, false, ua⟩ = none by rw [HTS2.o, <- hlate, HMn.1 xn]; simp)
   go_wp2_with fail
   go_ret
   unfold TurR
   rw [HNo.o]
   exact ⟨rfl, S9, bs9, HM.o.1, HNw.o, HFr.o, by rw [e1', e2']; rfl, fun _ _ => e2'⟩
  | true =>
   have hpl : t < S.ps.length := by rw [HS.o.plen]; exact hlt
   have hpl9 : t < S9.ps.length := by rw [HM.o.1.plen]; exact hlt
   have hP0 := HM.o.2.2.2.p hpl hpl9
   have hPle : S9.p t <= 20 := by
    rw [hP0]
    unfold skipS
    dsimp only
    have h9 := HOk9.o
    unfold okIns at h9
    split
    ·rename_i hk
     rw [if_neg (by dsimp only; omega), if_neg (by dsimp only; omega), if_neg (by dsimp only; omega), if_neg (by dsimp only; omega), if_pos hk.1] at h9
     simp at h9
     omega
    ·omega
   have hst := HM.o.1
   have hF : ∀ g, (∃ T cs, Blk Z g T cs /\ T ≠ 3 /\ T ≠ 96 /\ T ≠ 161 /\ T ≠ 180) -> ¬ SQ h bs g := by
    rintro g ⟨T, cs, hB, t1, t2, t3, t4⟩ (e | e | e | e | ⟨x, hx, e⟩)
    ·exact HKZ.o.st.w.ne hB t1 e
    ·exact HKZ.o.st.r.ne hB t2 e
    ·exact HKZ.o.st.p.ne hB t1 e
    ·exact HKZ.o.st.b.ne hB t3 e
    ·exact own_nb (HKZ.o.st.own x hx).2 hB (Ne.symm t4) e.symm
   have hQs : Blk Q gs 77 (stL h tn wn) := HKZ.o.s.kept (HM.o.2.2.1.block gs HKZ.o.s.lt (hF gs ⟨_, _, HKZ.o.s, by decide, by decide, by decide, by decide⟩))
   have hQu : Blk Q (w.heap.size + 1) 91 [.int .i64 t, .bool false, .int .i64 ua] := HUZ.o.kept (HM.o.2.2.1.block _ HUZ.o.lt (hF _ ⟨_, _, HUZ.o, by decide, by decide, by decide, by decide⟩))
   have s2 := hQs.cell (i := 2) rfl
   have u0 := hQu.cell (i := 0) rfl
   have hpc := hst.plc hlt
   have hpf := hst.p.frozen t
   clear hst hQs hQu hF hP0
   obtain ⟨P, hP⟩ : ∃ P, S9.p t = P := ⟨_, rfl⟩
   rw [hP] at hpc hPle
   have x1 : IntKind.i64.wrap ((P : Int) + 1) = ((P + 1 : Nat) : Int) := (IntWalk.i64_in _ (by omega)).trans (by simp)
   have x2 : min ((P + 1 : Nat) : Int) (xn : Int) = ((min (P + 1) xn : Nat) : Int) := by omega
   have HEnd : Hid (∀ v : Int, v = ((min (P + 1) xn : Nat) : Int) -> TurR ⟨wA, wn, wk, ws, some ⟨tb, to', none⟩, tn, tk, th⟩ o h S bs ⟨t, false, ua⟩ w (.returned (.bool true)) (Q.setCell ⟨h.gp, t, none⟩ (.int .i64 v)).drew) := by
    intro v hv
    subst hv
    have h8 : turnB ⟨wA, wn, wk, ws, some ⟨tb, to', none⟩, tn, tk, th⟩ o ⟨S, bs.map (·.q)⟩ ⟨t, false, ua⟩ = some ⟨⟨S9.ws, S9.rs, S9.ps.set t (min (S9.p t + 1) xn)⟩, bs9.map (·.q)⟩ := by rw [HTS2.o, <- hlate, HM.o.2.2.2.1 xn]; rfl
    unfold TurR
    rw [h8]
    have hd : Below (Q.setCell ⟨h.gp, t, none⟩ (.int .i64 ((min (P + 1) xn : Nat) : Int))).heap.size (Q.setCell ⟨h.gp, t, none⟩ (.int .i64 ((min (P + 1) xn : Nat) : Int))) (Q.setCell ⟨h.gp, t, none⟩ (.int .i64 ((min (P + 1) xn : Nat) : Int))).drew := (Below.refl _ _).drew
    refine ⟨rfl, _, bs9, (HM.o.1.setP t (min (P + 1) xn)).on hd, HNw.o, (HFr.o.setCell (Or.inr (Or.inr (Or.inl rfl))) _).trans (Fr.of hd), ?_, fun h9 _ => HM.o.2.2.2.2.2 (by rw [hlate, h9]; rfl)⟩
    rw [<- hP]
    rfl
   clear hP
   go_upto_region 14 with fail
   go_still_tail 18, (by kernel_rfl)
   go_wp2_with fail
   all_goals (go_ret; exact HEnd.o _ (by omega))
end Go.Proofs.YtgjdgapfnfhklaaGreat
