/-
What holds of every state that an order comes to. Plain data
-/
import Derived.Test.YtgjdgapfnfhklaaGreatZ26
import Derived.Test.YtgjdgapfnfhklaaGreatQtn
import Derived.Test.YtgjdgapfnfhklaaGreatQpi
import Derived.Test.YtgjdgapfnfhklaaGreatZ6
import Derived.Test.YtgjdgapfnfhklaaGreatDri
import Derived.Test.YtgjdgapfnfhklaaGreatZ17
set_option linter.unusedSimpArgs false
set_option linter.unusedVariables false
set_option maxRecDepth 100000
set_option maxHeartbeats 4000000
namespace Go.Proofs.YtgjdgapfnfhklaaGreat
open Go.RowKit
theorem GoodS.adv {l : Lit} {S : LS} (h : GoodS l S) (t : Nat) (x : Ins) {ws rs : List Int} (hw : ws.length = S.ws.length) (hr : rs.length = S.rs.length) : GoodS l ⟨ws, rs, advS S t (codeOf l t).length x⟩ := by
 have h9 := nextS_good h t x
 exact ⟨hw.trans h.w, hr.trans h.r, h9.p, h9.le⟩
theorem adv_p {S : LS} {t c u : Nat} {x : Ins} {ws rs : List Int} (ht : t < S.ps.length) (hc : S.p t < c) : LS.p ⟨ws, rs, advS S t c x⟩ u ≥ S.p u /\ (u = t -> LS.p ⟨ws, rs, advS S t c x⟩ u ≥ S.p u + 1) := by
 have h : LS.p ⟨ws, rs, advS S t c x⟩ u = if u = t then min (S.p t + skipS S t x + 1) c else S.p u := by
  show (S.ps.set t (min (S.p t + skipS S t x + 1) c)).getD u 0 = _
  rw [List.getD_eq_getElem?_getD]
  split
  ·rename_i hu
   subst hu
   rw [List.getElem?_set_self ht]
   rfl
  ·rename_i hu
   rw [List.getElem?_set_ne (Ne.symm hu), <- List.getD_eq_getElem?_getD]
   rfl
 rw [h]
 by_cases hu : u = t
 ·subst hu
  rw [if_pos rfl]
  exact ⟨by omega, fun _ => by omega⟩
 ·rw [if_neg hu]
  exact ⟨by omega, fun h9 => absurd h9 hu⟩
theorem OkB.turn {l : Lit} {o : Nat} {B B' : BS} {u : Tn} (h : OkB l B) (hok : okLit l = true) (hB : turnB l o B u = some B') : OkB l B' := by
 unfold turnB at hB
 split at hB
 case isFalse => cases hB
 rename_i ht
 generalize hT : u.t.toNat = T at hB
 have hTn : T < l.tn := by omega
 by_cases hu : u.out = true
 ·(try rw [if_pos hu] at hB)
  cases hq : outQ o u.a (B.b T) with
  | none => rw [hq] at hB; cases hB
  | some z =>
   obtain ⟨p, r⟩ := z
   rw [hq] at hB
   have hB : some (⟨⟨B.S.ws.set p.1 p.2, B.S.rs, B.S.ps⟩, B.q.set T r⟩ : BS) = some B' := hB
   injection hB with hB
   subst hB
   obtain ⟨s, s', e1, e2, _⟩ := outQ_spec hq
   refine ⟨⟨by rw [List.length_set]; exact h.good.w, h.good.r, h.good.p, h.good.le⟩, by rw [List.length_set]; exact h.ql, fun i hi => ?_⟩
   rw [b_set r (by rw [h.ql]; exact hTn)]
   have hb := h.buf i hi
   split
   ·rename_i hit
    subst hit
    rw [e1] at hb
    rw [e2]
    refine ⟨?_, fun p hp => hb.2 p ?_⟩
    ·have := hb.1
     rw [List.length_append, List.length_cons] at this
     rw [List.length_append]
     show _ <= B.S.p i
     omega
    ·rcases List.mem_append.1 hp with hp | hp
     ·exact List.mem_append_left _ hp
     ·exact List.mem_append_right _ (List.mem_cons_of_mem _ hp)
   ·exact hb
 ·(try rw [if_neg hu] at hB)
  cases hp : (codeOf l T)[B.S.p T]? with
  | none => rw [hp] at hB; cases hB
  | some x =>
   rw [hp] at hB
   have hB : doB (!decide (o = 1)) B T (codeOf l T).length x = some B' := hB
   have hpc := (List.getElem?_eq_some_iff.1 hp).1
   have hpl : T < B.S.ps.length := by rw [h.good.p]; exact hTn
   have hi := code_ok hok hp
   have adv : ∀ (ws rs : List Int), ws.length = B.S.ws.length -> rs.length = B.S.rs.length -> OkB l ⟨⟨ws, rs, advS B.S T (codeOf l T).length x⟩, B.q⟩ := fun ws rs h1 h2 =>
    ⟨h.good.adv T x h1 h2, h.ql, fun i hi => ⟨Nat.le_trans (h.buf i hi).1 (adv_p hpl hpc).1, (h.buf i hi).2⟩⟩
   unfold doB at hB
   split at hB
   ·injection hB with hB
    subst hB
    exact adv _ _ rfl (by rw [List.length_set])
   ·split at hB
    ·rename_i hk
     injection hB with hB
     subst hB
     have h9 := adv B.S.ws B.S.rs rfl rfl
     refine ⟨h9.good, by rw [List.length_set]; exact h.ql, fun i hi2 => ?_⟩
     rw [b_set _ (by rw [h.ql]; exact hTn)]
     split
     ·rename_i hit
      subst hit
      refine ⟨?_, fun p hp9 => ?_⟩
      ·rw [List.length_append, List.length_singleton]
       exact Nat.le_trans (Nat.succ_le_succ (h.buf i hi2).1) ((adv_p hpl hpc).2 rfl)
      ·rcases List.mem_append.1 hp9 with hp9 | hp9
       ·exact (h.buf i hi2).2 p hp9
       ·rw [List.mem_singleton] at hp9
        subst hp9
        exact ins_adr hi (Or.inr (Or.inl hk.1))
     ·exact h9.buf i hi2
    ·split at hB
     ·cases hB
     ·injection hB with hB
      subst hB
      obtain ⟨e1, e2⟩ := effS_len B.S T x
      exact adv _ _ e1 e2
theorem ReB.ok {l : Lit} {o : Nat} {B : BS} (hok : okLit l = true) (hl : l.ws.length = l.wn) (h : ReB l o B) : OkB l B := by
 induction h with
 | first => exact OkB.first hl
 | turn _ _ ht ih => exact ih.turn hok ht
end Go.Proofs.YtgjdgapfnfhklaaGreat
namespace Go.Proofs.YtgjdgapfnfhklaaGreat
open Go.RowKit
theorem look_q (l : Lit) (o : Nat) (w : World) (ho : o = 1 ∨ o = 2 ∨ o = 3) (h : LitAt w w.heap.size l) : Calls Tryz.prog 58 #[litV l, .int .i64 o] w (IntR (litErr l) w) := by
 have HB0 : Hid (Blk (w.alloc (.cells #[.slice l.wA l.wn l.wk, .slice l.tA l.tn l.tk] 25)) w.heap.size 25 (litL l)) := Blk.new _ _ _
 have HW0 : Hid (Below w.heap.size w (w.alloc (.cells #[.slice l.wA l.wn l.wk, .slice l.tA l.tn l.tk] 25))) := (Below.refl _ _).alloc (Nat.le_refl _) _
 have HL := Lh h
 clear h
 go_enter Tryz.func58, Tryz.ntmps58
 go_upto_region 1 with fail
 generalize w.alloc (.cells #[.slice l.wA l.wn l.wk, .slice l.tA l.tn l.tk] 25) = w0 at HB0 HW0 ⊢
 have q0 := HB0.o.cell (i := 0) rfl
 have q1 := HB0.o.cell (i := 1) rfl
 go_wp2_with fail
 refine (tcheck_any l w0 ((HL.o.keep HW0.o).up HW0.o.size)).mono ?_
 rintro e w1 ⟨rfl, hb1⟩
 have HW1 := Lh (HW0.o.trans (hb1.mono HW0.o.size))
 clear hb1
 by_cases hok : okLit l = true
 ·rw [litErr_ok hok]
  have b1 : ((0 : Int) != 0) = false := rfl
  obtain rfl | rfl | rfl := ho
  all_goals (
   go_wp2_with fail
   go_ret
   exact ⟨by rw [litErr_ok hok]; rfl, HW1.o⟩)
 ·rw [litErr_no (by simpa using hok)]
  have b1 : ((190 : Int) != 0) = true := rfl
  go_wp2_with fail
  go_ret
  exact ⟨by rw [litErr_no (by simpa using hok)]; rfl, HW1.o⟩
theorem code_len {w : World} {C : Nat} {l : Lit} (hl : LitAt w C l) (hok : okLit l = true) (t : Nat) : (codeOf l t).length <= 10 := by
 unfold codeOf
 split
 ·rename_i y hy
  have h1 := (okLit_code hok hy).1
  have h2 := hl.clen (List.mem_of_getElem? hy)
  omega
 ·exact Nat.zero_le _
theorem goodQ_of {w : World} {C : Nat} {l : Lit} {S : LS} {bs : List Bf} (hl : LitAt w C l) (hok : okLit l = true) (h : OkB l ⟨S, bs.map (·.q)⟩) : GoodQ l S bs := by
 refine ⟨h.good, fun y hy => ?_⟩
 obtain ⟨t, ht⟩ := List.mem_iff_getElem?.1 hy
 have hlt : t < l.tn := by have h1 := h.ql; have := (List.getElem?_eq_some_iff.1 ht).1; dsimp only at h1; rw [List.length_map] at h1; omega
 have hb := h.buf t hlt
 rw [b_map ht] at hb
 have h2 := h.good.le t hlt
 have h3 := code_len hl hok t
 exact ⟨by have := hb.1; dsimp only at this h2; omega, hb.2⟩
theorem turn_q (l : Lit) (o : Nat) (w : World) (gs : Nat) (h : SH) (S : LS) (bs : List Bf) (u : Tn) (hl : LitAt w w.heap.size l) (hs : StQ w h l.tn l.wn S bs) (hb : Blk w gs 77 (stL h l.tn l.wn)) (hg : OkB l ⟨S, bs.map (·.q)⟩) (hok : okLit l = true) :
  Calls Tryz.prog 62 #[litV l, .int .i64 o, .pointer (some ⟨gs, 0, none⟩), tnV u] w (TurR l o h S bs u w) := by
 have hG := goodQ_of hl hok hg
 by_cases hu : 0 <= u.t /\ u.t < l.tn /\ u.out = false
 ·cases hp : (codeOf l u.t.toNat)[S.p u.t.toNat]? with
  | none => exact turnQ_no l o w gs h S bs u hl hs hb hG hok (fun _ => hp)
  | some x => exact turnQ_yes l o w gs h S bs u x hl hs hb hG hok hu hp
 ·exact turnQ_no l o w gs h S bs u hl hs hb hG hok (fun h9 => absurd h9 hu)
/-! pictures -/
theorem picB_pre (B : BS) (n : Nat) : ∀ d t, t + d = n -> ∃ R, picB B n = picB B t ++ R
 | 0, t, h => ⟨[], by rw [<- h]; simp⟩
 | d + 1, t, h => by
  obtain ⟨R, hR⟩ := picB_pre B n d (t + 1) (by omega)
  exact ⟨thrL B.S (B.b t) t ++ R, by rw [hR, <- List.append_assoc]; rfl⟩
theorem thr_inj {S S' : LS} {q q' : List Pd} {t : Nat} {R R' : List Int} (h : thrL S q t ++ R = thrL S' q' t ++ R') : thrL S q t = thrL S' q' t /\ R = R' := by
 have h5 : (thrL S q t ++ R)[5]? = (thrL S' q' t ++ R')[5]? := by rw [h]
 unfold thrL at h5
 simp only [List.append_assoc, List.cons_append, List.getElem?_cons_succ, List.getElem?_cons_zero, Option.some.injEq] at h5
 exact List.append_inj h (by rw [thrL_len, thrL_len]; omega)
theorem pfl_inj : ∀ {q q' : List Pd}, (q.flatMap fun p => [(p.1 : Int), p.2]) = (q'.flatMap fun p => [(p.1 : Int), p.2]) -> q = q'
 | [], [], _ => rfl
 | [], p :: q', h => by simp at h
 | p :: q, [], h => by simp at h
 | p :: q, p' :: q', h => by
  rw [List.flatMap_cons, List.flatMap_cons] at h
  simp only [List.cons_append, List.nil_append, List.cons.injEq] at h
  rw [pfl_inj h.2.2]
  congr 1
  exact Prod.ext (by omega) h.2.1
theorem picB_inj {l : Lit} {B B' : BS} (hB : OkB l B) (hB' : OkB l B') {Z Z' : List Int} (h : picB B l.tn ++ Z = picB B' l.tn ++ Z') : B = B' := by
 have key : ∀ t, t <= l.tn -> picB B t = picB B' t := by
  intro t
  induction t with
  | zero =>
   intro _
   obtain ⟨R, hR⟩ := picB_pre B l.tn l.tn 0 (by omega)
   obtain ⟨R', hR'⟩ := picB_pre B' l.tn l.tn 0 (by omega)
   rw [hR, hR', List.append_assoc, List.append_assoc] at h
   exact (List.append_inj h (by show B.S.ws.length = B'.S.ws.length; rw [hB.good.w, hB'.good.w])).1
  | succ t ih =>
   intro ht
   have hp := ih (by omega)
   obtain ⟨R, hR⟩ := picB_pre B l.tn (l.tn - (t + 1)) (t + 1) (by omega)
   obtain ⟨R', hR'⟩ := picB_pre B' l.tn (l.tn - (t + 1)) (t + 1) (by omega)
   rw [hR, hR'] at h
   have e1 : picB B (t + 1) = picB B t ++ thrL B.S (B.b t) t := rfl
   have e2 : picB B' (t + 1) = picB B' t ++ thrL B'.S (B'.b t) t := rfl
   rw [e1, e2, hp, List.append_assoc, List.append_assoc, List.append_assoc, List.append_assoc] at h
   have h9 := (thr_inj (List.append_cancel_left h)).1
   rw [e1, e2, hp, h9]
 have thr : ∀ t, t < l.tn -> thrL B.S (B.b t) t = thrL B'.S (B'.b t) t := fun t ht => by
  have h1 := key (t + 1) (by omega)
  have e1 : picB B (t + 1) = picB B t ++ thrL B.S (B.b t) t := rfl
  have e2 : picB B' (t + 1) = picB B' t ++ thrL B'.S (B'.b t) t := rfl
  rw [e1, e2, key t (by omega)] at h1
  exact List.append_cancel_left h1
 have hq : ∀ t, t < l.tn -> B.b t = B'.b t := fun t ht => by
  have h1 := thr t ht
  unfold thrL at h1
  exact pfl_inj (List.append_inj h1 rfl).2
 have hr : ∀ t, t < l.tn -> (∀ q, q < 4 -> B.S.r t q = B'.S.r t q) /\ B.S.p t = B'.S.p t := fun t ht => by
  have h1 := thr t ht
  unfold thrL at h1
  have h2 := (List.append_inj h1 rfl).1
  simp only [List.cons.injEq, and_true] at h2
  obtain ⟨a0, a1, a2, a3, a4, _⟩ := h2
  refine ⟨fun q hq => ?_, by omega⟩
  obtain rfl | rfl | rfl | rfl : q = 0 ∨ q = 1 ∨ q = 2 ∨ q = 3 := by omega
  ·exact a0
  ·exact a1
  ·exact a2
  ·exact a3
 have hS : B.S = B'.S := by
  have hw : B.S.ws = B'.S.ws := key 0 (Nat.zero_le _)
  have hrs : B.S.rs = B'.S.rs := by
   apply List.ext_getElem?
   intro c
   by_cases hc : c < l.tn * 4
   ·have h1 := (hr (c / 4) (by omega)).1 (c % 4) (by omega)
    have e : c / 4 * 4 + c % 4 = c := by omega
    have h2 := LS.r_at (S := B.S) (t := c / 4) (q := c % 4) (by rw [hB.good.r]; omega)
    have h3 := LS.r_at (S := B'.S) (t := c / 4) (q := c % 4) (by rw [hB'.good.r]; omega)
    rw [e] at h2 h3
    rw [h2, h3, h1]
   ·rw [List.getElem?_eq_none (by rw [hB.good.r]; omega), List.getElem?_eq_none (by rw [hB'.good.r]; omega)]
  have hps : B.S.ps = B'.S.ps := by
   apply List.ext_getElem?
   intro c
   by_cases hc : c < l.tn
   ·rw [LS.p_at (S := B.S) (by rw [hB.good.p]; exact hc), LS.p_at (S := B'.S) (by rw [hB'.good.p]; exact hc), (hr c hc).2]
   ·rw [List.getElem?_eq_none (by rw [hB.good.p]; omega), List.getElem?_eq_none (by rw [hB'.good.p]; omega)]
  obtain ⟨⟨a1, a2, a3⟩, a4⟩ := B
  obtain ⟨⟨c1, c2, c3⟩, c4⟩ := B'
  dsimp only at hw hrs hps ⊢
  rw [hw, hrs, hps]
 have hQ : B.q = B'.q := by
  apply List.ext_getElem?
  intro c
  by_cases hc : c < l.tn
  ·have h1 := hq c hc
   unfold BS.b at h1
   rw [List.getD_eq_getElem?_getD, List.getD_eq_getElem?_getD] at h1
   have c1 : c < B.q.length := by rw [hB.ql]; exact hc
   have c2 : c < B'.q.length := by rw [hB'.ql]; exact hc
   rw [List.getElem?_eq_getElem c1, List.getElem?_eq_getElem c2] at h1 ⊢
   exact congrArg some h1
  ·rw [List.getElem?_eq_none (by rw [hB.ql]; omega), List.getElem?_eq_none (by rw [hB'.ql]; omega)]
 cases B
 cases B'
 dsimp only at hS hQ
 rw [hS, hQ]
def keyB (l : Lit) (B : BS) : List Value := padI (picB B l.tn)
theorem padI_as (L : List Int) : padI L = ints (L ++ List.replicate (110 - L.length) 0) := by unfold padI ints; simp
theorem keyB_inj {l : Lit} {B B' : BS} (hB : OkB l B) (hB' : OkB l B') (h : keyB l B = keyB l B') : B = B' := by
 unfold keyB at h
 rw [padI_as, padI_as] at h
 unfold ints at h
 exact picB_inj hB hB' ((List.map_inj_right (fun x y h => by injection h)).1 h)
theorem keyB_mem {l : Lit} {ns : List BS} {B : BS} (hns : ∀ C ∈ ns, OkB l C) (hB : OkB l B) : keyB l B ∈ ns.map (keyB l) ↔ B ∈ ns := by
 constructor
 ·intro h
  obtain ⟨C, hC, he⟩ := List.mem_map.1 h
  rw [keyB_inj hB (hns C hC) he.symm]
  exact hC
 ·exact fun h => List.mem_map.2 ⟨B, h, rfl⟩
end Go.Proofs.YtgjdgapfnfhklaaGreat
namespace Go.Proofs.YtgjdgapfnfhklaaGreat
open Go.RowKit
theorem strict_uniq {α : Type} {lt : α -> α -> Prop} (irr : ∀ x, ¬ lt x x) (tr : ∀ {x y z}, lt x y -> lt y z -> lt x z) : ∀ {a b : List α}, a.Pairwise lt -> b.Pairwise lt -> (∀ x, x ∈ a ↔ x ∈ b) -> a = b
 | [], [], _, _, _ => rfl
 | [], y :: b, _, _, h => by have := (h y).2 (by simp); cases this
 | x :: a, [], _, _, h => by have := (h x).1 (by simp); cases this
 | x :: a, y :: b, ha, hb, h => by
  obtain ⟨ha1, ha2⟩ := List.pairwise_cons.1 ha
  obtain ⟨hb1, hb2⟩ := List.pairwise_cons.1 hb
  have e : x = y := by
   rcases List.mem_cons.1 ((h x).1 (by simp)) with e | e
   ·exact e
   ·rcases List.mem_cons.1 ((h y).2 (by simp)) with e2 | e2
    ·exact e2.symm
    ·exact absurd (tr (ha1 y e2) (hb1 x e)) (irr x)
  subst e
  congr 1
  refine strict_uniq irr tr ha2 hb2 fun z => ⟨fun hz => ?_, fun hz => ?_⟩
  ·rcases List.mem_cons.1 ((h z).1 (List.mem_cons_of_mem _ hz)) with e | e
   ·subst e; exact absurd (ha1 z hz) (irr z)
   ·exact e
  ·rcases List.mem_cons.1 ((h z).2 (List.mem_cons_of_mem _ hz)) with e | e
   ·subst e; exact absurd (hb1 z hz) (irr z)
   ·exact e
structure FinSrt (l : Lit) (o : Nat) (L : List (List Int × List Int)) : Prop where
 srt : L.Pairwise (fun x y => ordK x y < 0)
 mem : ∀ p, p ∈ L ↔ ∃ B, ReB l o B /\ finB l B = true /\ B.S.ws = p.1 /\ B.S.rs = p.2
theorem fins_same {l : Lit} {o : Nat} {L L' : List (List Int × List Int)} (hok : okLit l = true) (hlw : l.ws.length = l.wn) (hf : freeN l = .free) (ho : o = 2 ∨ o = 3) (h : FinSrt l o L) (h' : FinSrt l 1 L') : L = L' :=
 strict_uniq (lt := fun x y => ordK x y < 0) (fun x => by unfold ordK; rw [cmpL_self]; omega) (fun h1 h2 => cmpL_trans h1 h2) h.srt h'.srt fun p => by
  rw [h.mem, h'.mem]
  exact finals_same hok hlw hf ho p.1 p.2
theorem fin_inj {l : Lit} {B C : BS} (hB : OkB l B) (hC : OkB l C) (fB : finB l B = true) (fC : finB l C = true) (h : finK B = finK C) : B = C := by
 have h1 := finB_iff.1 fB
 have h2 := finB_iff.1 fC
 obtain ⟨⟨ws, rs, ps⟩, q⟩ := B
 obtain ⟨⟨ws', rs', ps'⟩, q'⟩ := C
 have e : (ws, rs) = (ws', rs') := h
 injection e with e1 e2
 subst e1 e2
 have gB := hB.good
 have gC := hC.good
 have e3 : ps = ps' := by
  apply List.ext_getElem?
  intro t
  have p1 : ps.length = l.tn := gB.p
  have p2 : ps'.length = l.tn := gC.p
  by_cases ht : t < l.tn
  ·have a1 := gB.le t ht
   have a2 := gC.le t ht
   have b1 := (h1 t ht).1
   have b2 := (h2 t ht).1
   unfold LS.p at a1 a2 b1 b2
   dsimp only at a1 a2 b1 b2
   rw [List.getD_eq_getElem?_getD] at a1 a2 b1 b2
   rw [List.getElem?_eq_getElem (by omega)] at a1 b1 ⊢
   rw [List.getElem?_eq_getElem (by omega)] at a2 b2 ⊢
   simp only [Option.getD_some] at a1 a2 b1 b2
   congr 1
   omega
  ·rw [List.getElem?_eq_none (by omega), List.getElem?_eq_none (by omega)]
 have e4 : q = q' := by
  apply List.ext_getElem?
  intro t
  have p1 : q.length = l.tn := hB.ql
  have p2 : q'.length = l.tn := hC.ql
  by_cases ht : t < l.tn
  ·have b1 := (h1 t ht).2
   have b2 := (h2 t ht).2
   unfold BS.b at b1 b2
   dsimp only at b1 b2
   rw [List.getD_eq_getElem?_getD] at b1 b2
   rw [List.getElem?_eq_getElem (by omega)] at b1 ⊢
   rw [List.getElem?_eq_getElem (by omega)] at b2 ⊢
   simp only [Option.getD_some] at b1 b2
   rw [b1, b2]
  ·rw [List.getElem?_eq_none (by omega), List.getElem?_eq_none (by omega)]
 rw [e3, e4]
theorem nodup_map {α β : Type} {f : α -> β} : ∀ {l : List α}, (∀ x ∈ l, ∀ y ∈ l, f x = f y -> x = y) -> l.Nodup -> (l.map f).Nodup
 | [], _, _ => by simp
 | x :: l, h, hn => by
  obtain ⟨h1, h2⟩ := List.nodup_cons.1 hn
  rw [List.map_cons]
  refine List.nodup_cons.2 ⟨fun hm => ?_, nodup_map (fun a ha b hb => h a (List.mem_cons_of_mem _ ha) b (List.mem_cons_of_mem _ hb)) h2⟩
  obtain ⟨y, hy, e⟩ := List.mem_map.1 hm
  have := h y (List.mem_cons_of_mem _ hy) x (by simp) e
  subst this
  exact h1 hy
theorem strict_of {l : Lit} : ∀ {L : List (List Int × List Int)}, (∀ x ∈ L, x.1.length = l.wn) -> L.Nodup -> L.Pairwise (fun x y => ¬ ordK y x < 0) -> L.Pairwise (fun x y => ordK x y < 0)
 | [], _, _, _ => List.Pairwise.nil
 | x :: L, hl, hn, hp => by
  obtain ⟨h1, h2⟩ := List.nodup_cons.1 hn
  obtain ⟨p1, p2⟩ := List.pairwise_cons.1 hp
  refine List.pairwise_cons.2 ⟨fun y hy => ?_, strict_of (fun a ha => hl a (List.mem_cons_of_mem _ ha)) h2 p2⟩
  have h3 := p1 y hy
  unfold ordK at h3 ⊢
  rw [cmpL_anti] at h3
  rcases Int.lt_or_eq_of_le (show cmpL (x.1 ++ x.2) (y.1 ++ y.2) <= 0 by omega) with h | h
  ·exact h
  ·exfalso
   obtain ⟨e1, e2⟩ := List.append_inj (cmpL_zero h) (by rw [hl x (by simp), hl y (List.mem_cons_of_mem _ hy)])
   have : x = y := Prod.ext e1 e2
   subst this
   exact h1 hy
theorem fins_sorted {l : Lit} {o : Nat} {ns : List BS} {L : List (List Int × List Int)} (hok : okLit l = true) (hlw : l.ws.length = l.wn) (hw : walkN l o = some ns) (hp : L.Perm ((ns.filter (finB l)).map finK)) (hs : L.Pairwise (fun x y => ¬ ordK y x < 0)) : FinSrt l o L := by
 obtain ⟨h1, h2⟩ := walkN_all hw
 have hokB : ∀ B ∈ ns, OkB l B := fun B hB => ReB.ok hok hlw ((h1 B).1 hB)
 have hnd : L.Nodup := hp.nodup_iff.2 (nodup_map (fun x hx y hy e => by
  obtain ⟨x1, x2⟩ := List.mem_filter.1 hx
  obtain ⟨y1, y2⟩ := List.mem_filter.1 hy
  exact fin_inj (hokB x x1) (hokB y y1) x2 y2 e) (List.Pairwise.filter _ h2))
 have hm : ∀ p, p ∈ L ↔ ∃ B, ReB l o B /\ finB l B = true /\ B.S.ws = p.1 /\ B.S.rs = p.2 := fun p => by
  rw [hp.mem_iff, List.mem_map]
  constructor
  ·rintro ⟨B, hB, rfl⟩
   obtain ⟨b1, b2⟩ := List.mem_filter.1 hB
   exact ⟨B, (h1 B).1 b1, b2, rfl, rfl⟩
  ·rintro ⟨B, hB, fB, e1, e2⟩
   exact ⟨B, List.mem_filter.2 ⟨(h1 B).2 hB, fB⟩, Prod.ext e1 e2⟩
 refine ⟨strict_of (l := l) (fun x hx => ?_) hnd hs, hm⟩
 obtain ⟨B, hB, _, e1, _⟩ := (hm x).1 hx
 rw [<- e1]
 exact (ReB.ok hok hlw hB).good.w
end Go.Proofs.YtgjdgapfnfhklaaGreat
