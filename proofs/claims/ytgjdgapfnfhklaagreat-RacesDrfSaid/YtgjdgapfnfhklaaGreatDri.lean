/-
A program whose search finds no race leaves the same under a
-/
import Derived.Test.YtgjdgapfnfhklaaGreatZ6
import Derived.Test.YtgjdgapfnfhklaaGreatZ26
set_option linter.unusedSimpArgs false
set_option linter.unusedVariables false
namespace Go.Proofs.YtgjdgapfnfhklaaGreat
open Go.RowKit
section
variable {l : Lit} {x : Nd} {B B' : BS} {t : Nat} {i : Ins}
theorem Sim.step (h : Sim l x B) (hx : OkN l x) (hok : okLit l = true) (hl : x.es.length < 1000000) (ht : t < l.tn) (hp : (codeOf l t)[B.S.p t]? = some i) (hd : doB true B t (codeOf l t).length i = some B') (hr : raceN (kidN l x t) = false) : Sim l (kidN l x t) B' := by
 have hps : x.S.p t = B.S.p t := by unfold LS.p; rw [h.ps]
 have hpk : pickS l x.S (tnB t) = some i := by rw [pick_t ht, hps]; exact hp
 have hkS : (kidN l x t).S = nextS x.S t (codeOf l t).length i := turn_t hpk
 have hev := ev_t hpk
 have hi := code_ok hok hp
 have hxw : x.S.ws.length = l.wn := hx.good.w
 have hke : ∀ o, eventS (nextS x.S t (codeOf l t).length i) t i = o -> (kidN l x t).es = x.es ++ o.toList := fun o ho => by
  show x.es ++ (evOf l x.S (tnB t)).toList = _
  rw [hev, ho]
 have hadv := adv_eq h.rs h.ps t (codeOf l t).length i
 have hnt : ∀ e : Ev, eventS (nextS x.S t (codeOf l t).length i) t i = some e -> e.t = t -> ∀ u, u ≠ t -> lastQ (B.b u) e.a = none := fun e he het u hu => by
  have := h.word (e := e) (nolate hx hok hl (hev.trans he) hr) u (by rw [het]; exact hu)
  exact this
 generalize (codeOf l t).length = c at *
 unfold doB at hd
 by_cases k1 : i.kind = 1
 ·rw [if_pos k1] at hd
  injection hd with hd
  subst hd
  have he : eventS (nextS x.S t c i) t i = some ⟨t, 1, i.addr.toNat, false⟩ := by unfold eventS; rw [if_pos k1]
  have hw := hnt _ he rfl
  have hs := h.see (t := t) (i := i) hw
  have hes := hke _ he
  have hS : nextS x.S t c i = ⟨x.S.ws, x.S.rs.set (t * 4 + i.reg.toNat) (x.S.w i.addr.toNat), advS x.S t c i⟩ := by unfold nextS effS; rw [if_pos k1]; rfl
  rw [hS] at hkS
  refine ⟨?_, ?_, h.wl, h.ql, fun u a v h9 => ?_, fun a h9 => ?_, h.own, fun u a v h9 => ?_⟩
  ·rw [hkS, hs, h.rs]
  ·rw [hkS]; exact hadv
  ·rw [hkS]; exact h.wd1 u a v h9
  ·rw [hkS]; exact h.wd0 a h9
  ·rw [hes]
   by_cases hu : u = t
   ·subst hu
    exact h.numO (e := ⟨u, 1, i.addr.toNat, false⟩) h9 (by show (1 : Int) ≠ 3; omega) (fun h8 => by have := h8.1; simp [hitK] at this)
   ·exact h.numF (e := ⟨t, 1, i.addr.toNat, false⟩) h9 hu
 rw [if_neg k1] at hd
 by_cases k2 : i.kind = 2
 ·rw [if_pos ⟨k2, rfl⟩] at hd
  injection hd with hd
  subst hd
  have he : eventS (nextS x.S t c i) t i = some ⟨t, 2, i.addr.toNat, true⟩ := by unfold eventS; rw [if_neg k1, if_pos k2]
  have hw := hnt _ he rfl
  have hes := hke _ he
  have hS : nextS x.S t c i = ⟨x.S.ws.set i.addr.toNat (valS x.S t i), x.S.rs, advS x.S t c i⟩ := by unfold nextS effS; rw [if_neg k1, if_pos k2]; rfl
  have hv : valS B.S t i = valS x.S t i := by unfold valS LS.r; rw [h.rs]
  have ha := ins_adr hi (Or.inr (Or.inl k2))
  rw [hS] at hkS
  have hb := fun u S => b_set (B := B) (B.b t ++ [(i.addr.toNat, valS B.S t i)]) (show t < B.q.length by rw [h.ql]; exact ht) u S
  have hla : ∀ a, lastQ (B.b t ++ [(i.addr.toNat, valS B.S t i)]) a = if i.addr.toNat = a then some (valS B.S t i) else lastQ (B.b t) a := fun a => by
   rw [lastQ_app, lastQ_one]
   split <;> rename_i h9
   ·split at h9
    ·rename_i h8; rw [if_pos h8, <- h9]
    ·cases h9
   ·split at h9
    ·cases h9
    ·rename_i h8; rw [if_neg h8]
  refine ⟨?_, ?_, h.wl, by rw [List.length_set]; exact h.ql, fun u a v h9 => ?_, fun a h9 => ?_, fun u w a v z h8 h9 => ?_, fun u a v h9 => ?_⟩
  ·rw [hkS]; exact h.rs
  ·rw [hkS]; exact hadv
  ·rw [hkS]
   show (x.S.ws.set _ _).getD a 0 = v
   rw [lget_set (by rw [hxw]; exact ha)]
   rw [hb] at h9
   split at h9
   ·rw [hla] at h9
    split at h9
    ·rename_i h8
     rw [if_pos h8.symm, <- hv]
     injection h9
    ·rename_i h8
     rw [if_neg (Ne.symm h8)]
     exact h.wd1 t a v h9
   ·rename_i hu
    have hne : a ≠ i.addr.toNat := fun h8 => by
     subst h8
     have h7 : lastQ (B.b u) i.addr.toNat = none := hw u hu
     rw [h7] at h9
     cases h9
    rw [if_neg hne]
    exact h.wd1 u a v h9
  ·have h8 := h9 t
   rw [hb, if_pos rfl, hla] at h8
   split at h8
   ·cases h8
   ·rename_i hne
    rw [hkS]
    show (x.S.ws.set _ _).getD a 0 = _
    rw [lget_set (by rw [hxw]; exact ha), if_neg (Ne.symm hne)]
    refine h.wd0 a fun u => ?_
    have h7 := h9 u
    rw [hb] at h7
    split at h7
    ·rename_i hu
     subst hu
     exact h8
    ·exact h7
  ·rw [hb] at h8 h9
   by_cases ha' : a = i.addr.toNat
   ·subst ha'
    split at h8
    ·rename_i hu
     split at h9
     ·rename_i hw2; rw [hu, hw2]
     ·rename_i hw2
      have h7 : lastQ (B.b w) i.addr.toNat = none := hw w hw2
      rw [h7] at h9
      cases h9
    ·rename_i hu
     have h7 : lastQ (B.b u) i.addr.toNat = none := hw u hu
     rw [h7] at h8
     cases h8
   ·have cut : ∀ {j : Nat} {z : Int}, lastQ (if j = t then B.b t ++ [(i.addr.toNat, valS B.S t i)] else B.b j) a = some z -> lastQ (B.b j) a = some z := fun {j z} h7 => by
     split at h7
     ·rename_i hj
      subst hj
      rw [hla, if_neg (Ne.symm ha')] at h7
      exact h7
     ·exact h7
    exact h.own u w a v z (cut h8) (cut h9)
  ·rw [hes]
   rw [hb] at h9
   split at h9
   ·rename_i hu
    subst hu
    by_cases ha' : a = i.addr.toNat
    ·subst ha'
     exact ⟨⟨ht, ha⟩, Sim.numN (e := ⟨u, 2, i.addr.toNat, true⟩) hl rfl⟩
    ·rw [hla, if_neg (Ne.symm ha')] at h9
     exact h.numO (e := ⟨u, 2, i.addr.toNat, true⟩) h9 (by show (2 : Int) ≠ 3; omega) (fun h8 => ha' h8.2)
   ·rename_i hu
    exact h.numF (e := ⟨t, 2, i.addr.toNat, true⟩) h9 hu
 rw [if_neg (fun h9 => k2 h9.1)] at hd
 split at hd
 ·cases hd
 rename_i hbt
 injection hd with hd
 subst hd
 by_cases k3 : i.kind = 3
 ·have hbt : B.b t = [] := by
   cases h9 : B.b t with
   | nil => rfl
   | cons p q => exact absurd ⟨Or.inl k3, by rw [h9]; simp⟩ hbt
  have ⟨w9, he⟩ : ∃ w9, eventS (nextS x.S t c i) t i = some ⟨t, 3, i.addr.toNat, w9⟩ := ⟨_, by unfold eventS; rw [if_neg k1, if_neg k2, if_pos k3]⟩
  have hw := hnt _ he rfl
  have hes := hke _ he
  have hs := h.see (t := t) (i := i) hw
  have hs : x.S.w i.addr.toNat = B.S.w i.addr.toNat := by rw [hs]; unfold BS.see; rw [hbt]; rfl
  have ha := ins_adr hi (Or.inr (Or.inr k3))
  have hall : ∀ u, lastQ (B.b u) i.addr.toNat = none := fun u => by
   by_cases hu : u = t
   ·subst hu; rw [hbt]; rfl
   ·exact hw u hu
  have hne : ∀ {u a v}, lastQ (B.b u) a = some v -> a ≠ i.addr.toNat := fun {u a v} h9 h8 => by
   subst h8
   rw [hall u] at h9
   cases h9
  have hnum : ∀ u a v, lastQ (B.b u) a = some v -> (u < l.tn /\ a < l.wn) /\ (∀ j, j ≠ u -> (xAt (kidN l x t).es).m j u < lastE (kidN l x t).es 2 a u) /\ ∀ b, (xAt (kidN l x t).es).wd b u < lastE (kidN l x t).es 2 a u := fun u a v h9 => by
   rw [hes]
   refine h.numF (e := ⟨t, 3, i.addr.toNat, w9⟩) h9 fun hu => ?_
   have hu : u = t := hu
   subst hu
   rw [hbt] at h9
   cases h9
  by_cases hold : B.S.w i.addr.toNat = i.old
  ·have hS : nextS x.S t c i = ⟨x.S.ws.set i.addr.toNat i.value, x.S.rs.set (t * 4 + i.reg.toNat) 1, advS x.S t c i⟩ := by unfold nextS effS; rw [if_neg k1, if_neg k2, if_pos k3, if_pos (hs.trans hold)]; rfl
   have hT : nextS B.S t c i = ⟨B.S.ws.set i.addr.toNat i.value, B.S.rs.set (t * 4 + i.reg.toNat) 1, advS B.S t c i⟩ := by unfold nextS effS; rw [if_neg k1, if_neg k2, if_pos k3, if_pos hold]; rfl
   rw [hS] at hkS
   rw [hT]
   refine ⟨by rw [hkS, h.rs], by rw [hkS]; exact hadv, by rw [List.length_set]; exact h.wl, h.ql, fun u a v h9 => ?_, fun a h9 => ?_, h.own, hnum⟩
   ·rw [hkS]
    show (x.S.ws.set _ _).getD a 0 = v
    rw [lget_set (by rw [hxw]; exact ha), if_neg (hne h9)]
    exact h.wd1 u a v h9
   ·rw [hkS]
    show (x.S.ws.set _ _).getD a 0 = (B.S.ws.set _ _).getD a 0
    rw [lget_set (by rw [hxw]; exact ha), lget_set (by rw [h.wl]; exact ha)]
    split
    ·rfl
    ·exact h.wd0 a h9
  ·have hS : nextS x.S t c i = ⟨x.S.ws, x.S.rs.set (t * 4 + i.reg.toNat) 0, advS x.S t c i⟩ := by unfold nextS effS; rw [if_neg k1, if_neg k2, if_pos k3, if_neg (by rw [hs]; exact hold)]; rfl
   have hT : nextS B.S t c i = ⟨B.S.ws, B.S.rs.set (t * 4 + i.reg.toNat) 0, advS B.S t c i⟩ := by unfold nextS effS; rw [if_neg k1, if_neg k2, if_pos k3, if_neg hold]; rfl
   rw [hS] at hkS
   rw [hT]
   refine ⟨by rw [hkS, h.rs], by rw [hkS]; exact hadv, h.wl, h.ql, fun u a v h9 => ?_, fun a h9 => ?_, h.own, hnum⟩
   ·rw [hkS]; exact h.wd1 u a v h9
   ·rw [hkS]; exact h.wd0 a h9
 ·have he : eventS (nextS x.S t c i) t i = none := by unfold eventS; rw [if_neg k1, if_neg k2, if_neg k3]
  have hes := hke _ he
  have hes : (kidN l x t).es = x.es := by rw [hes]; simp
  have e1 := eff_eq h.rs t i k1 k2 k3
  have e2 := eff_eq (S := x.S) (T := x.S) rfl t i k1 k2 k3
  have hS : ∀ a, LS.w (nextS x.S t c i) a = x.S.w a := fun a => by show (effS x.S t i).ws.getD a 0 = _; rw [e2.2]; rfl
  have hT : ∀ a, LS.w (nextS B.S t c i) a = B.S.w a := fun a => by show (effS B.S t i).ws.getD a 0 = _; rw [e1.2]; rfl
  refine ⟨?_, ?_, ?_, h.ql, fun u a v h9 => ?_, fun a h9 => ?_, h.own, fun u a v h9 => ?_⟩
  ·rw [hkS]; exact e1.1
  ·rw [hkS]; exact hadv
  ·show (effS B.S t i).ws.length = _
   rw [e1.2]; exact h.wl
  ·rw [hkS, hS]; exact h.wd1 u a v h9
  ·rw [hkS, hS]
   exact (h.wd0 a h9).trans (hT a).symm
  ·rw [hes]; exact h.num u a v h9
end
theorem re_sim {l : Lit} {o : Nat} (hok : okLit l = true) (hlw : l.ws.length = l.wn) (ho : o ≠ 1) {ns : List Nd} (hS : Srch l ns) (hc : ∀ x ∈ ns, ∀ t, t < l.tn -> ClN l ns x t) {B : BS} (h : ReB l o B) : ∃ x ∈ ns, Sim l x B := by
 induction h with
 | first => 
  have hno : ∀ {t a v}, lastQ ((firstB l).b t) a = some v -> False := fun {t a v} h9 => by
   unfold firstB at h9
   rw [first_b] at h9
   cases h9
  exact ⟨rootN l, hS.root, rfl, rfl, hlw, by simp [firstB], fun t a v h9 => (hno h9).elim, fun a _ => rfl, fun t u a v z h9 => (hno h9).elim, fun t a v h9 => (hno h9).elim⟩
 | turn hB hu hd ih =>
  rename_i B B' u
  obtain ⟨x, hx, hs⟩ := ih
  obtain ⟨j, hj⟩ := List.mem_iff_getElem?.1 hx
  obtain ⟨okx, hwy⟩ := hS.ok j x hj
  have hjl := (List.getElem?_eq_some_iff.1 hj).1
  have hle := hS.le
  have hel := okx.le
  obtain ⟨t, ht, hut, hu | hu⟩ := turnsO_tn hu
  ·subst hu
   have hd0 := hd
   unfold turnB at hd
   rw [if_pos ⟨by show (0 : Int) <= t; omega, by show (t : Int) < _; omega⟩, if_neg (by simp [tnB])] at hd
   have e : (tnB t).t.toNat = t := rfl
   rw [e] at hd
   cases hp : (codeOf l t)[B.S.p t]? with
   | none => rw [hp] at hd; cases hd
   | some i =>
    rw [hp] at hd
    have hd : doB (!decide (o = 1)) B t (codeOf l t).length i = some B' := hd
    rw [show (!decide (o = 1)) = true by simp [ho]] at hd
    have hpx : pickS l x.S (tnB t) ≠ none := by
     rw [pick_t ht, show x.S.p t = B.S.p t by unfold LS.p; rw [hs.ps], hp]
     simp
    obtain ⟨hr, hm⟩ := hc x hx t ht hpx
    have h1 := hs.step okx hok (by omega) ht hp hd hr
    obtain ⟨y, hy, hk⟩ := List.mem_map.1 hm
    obtain ⟨jy, hjy⟩ := List.mem_iff_getElem?.1 hy
    exact ⟨y, hy, h1.eqk ((keyN_iff (okx.kid hok ht hr) (hS.ok jy y hjy).1).1 hk.symm)⟩
  ·exact ⟨x, hx, hs.out hu hd⟩
/-! sequential consistency, and what it comes to under another order -/
theorem repl_set {α : Type} (n t : Nat) (a b : α) : ((List.replicate n a).set t b).set t a = List.replicate n a := by
 apply List.ext_getElem?
 intro i
 rw [List.set_set]
 by_cases h : t = i
 ·subst h
  by_cases h2 : t < n
  ·rw [List.getElem?_set_self (by simpa using h2), List.getElem?_replicate, if_pos h2]
  ·rw [List.getElem?_eq_none (by simp; omega), List.getElem?_eq_none (by simp; omega)]
 ·rw [List.getElem?_set_ne h]
theorem turnsO_in {l : Lit} {o t : Nat} (ht : t < l.tn) : tnB t ∈ turnsO l o := by
 unfold turnsO
 exact List.mem_flatMap.2 ⟨t, List.mem_range.2 ht, by simp⟩
theorem turn_in {l : Lit} {o t : Nat} {B : BS} {i : Ins} (ht : t < l.tn) (hp : (codeOf l t)[B.S.p t]? = some i) : turnB l o B (tnB t) = doB (!decide (o = 1)) B t (codeOf l t).length i := by
 unfold turnB
 rw [if_pos ⟨by show (0 : Int) <= t; omega, by show (t : Int) < _; omega⟩, if_neg (by simp [tnB])]
 have e : (tnB t).t.toNat = t := rfl
 rw [e, hp]
theorem sc_re {l : Lit} {o : Nat} (hok : okLit l = true) (ho : o = 1 ∨ o = 2 ∨ o = 3) {S : LS} (h : ScR l S) : ReB l o ⟨S, List.replicate l.tn []⟩ := by
 induction h with
 | first => exact ReB.first
 | turn hS ht hp ih =>
  rename_i S t i
  rw [turn_t hp]
  rw [pick_t ht] at hp
  have hin := turn_in (o := o) (B := ⟨S, List.replicate l.tn []⟩) ht hp
  by_cases hk : i.kind = 2 /\ (!decide (o = 1)) = true
  ·have ha := ins_adr (code_ok hok hp) (Or.inr (Or.inl hk.1))
   have h1 : doB (!decide (o = 1)) ⟨S, List.replicate l.tn []⟩ t (codeOf l t).length i = some ⟨⟨S.ws, S.rs, advS S t (codeOf l t).length i⟩, (List.replicate l.tn []).set t [(i.addr.toNat, valS S t i)]⟩ := by
    unfold doB
    rw [if_neg (by omega), if_pos hk, first_b]
    rfl
   rw [h1] at hin
   have h2 := ReB.turn ih (turnsO_in ht) hin
   have hout : ∀ a : Nat, (o = 2 /\ a = 0) ∨ (o = 3 /\ a = i.addr.toNat) -> turnB l o ⟨⟨S.ws, S.rs, advS S t (codeOf l t).length i⟩, (List.replicate l.tn []).set t [(i.addr.toNat, valS S t i)]⟩ ⟨t, true, a⟩ = some ⟨nextS S t (codeOf l t).length i, List.replicate l.tn []⟩ := by
    intro a ha9
    unfold turnB
    rw [if_pos ⟨by show (0 : Int) <= t; omega, by show (t : Int) < _; omega⟩, if_pos rfl]
    have e : (⟨t, true, a⟩ : Tn).t.toNat = t := rfl
    rw [e]
    have hb := b_set (B := ⟨S, List.replicate l.tn []⟩) [(i.addr.toNat, valS S t i)] (show t < _ by simpa using ht) t ⟨S.ws, S.rs, advS S t (codeOf l t).length i⟩
    rw [if_pos rfl] at hb
    have hb : BS.b ⟨⟨S.ws, S.rs, advS S t (codeOf l t).length i⟩, (List.replicate l.tn []).set t [(i.addr.toNat, valS S t i)]⟩ t = [(i.addr.toNat, valS S t i)] := hb
    rw [hb]
    have hq : outQ o (⟨t, true, a⟩ : Tn).a [(i.addr.toNat, valS S t i)] = some ((i.addr.toNat, valS S t i), []) := by
     rw [outQ]
     rw [if_neg]
     rintro ⟨h8, h9⟩
     rcases ha9 with h7 | h7
     ·omega
     ·rw [h7.2] at h9; exact h9 rfl
    rw [hq]
    show some (⟨⟨S.ws.set i.addr.toNat (valS S t i), S.rs, advS S t (codeOf l t).length i⟩, ((List.replicate l.tn []).set t [(i.addr.toNat, valS S t i)]).set t []⟩ : BS) = _
    have hS : nextS S t (codeOf l t).length i = ⟨S.ws.set i.addr.toNat (valS S t i), S.rs, advS S t (codeOf l t).length i⟩ := by unfold nextS effS; rw [if_neg (by omega), if_pos hk.1]; rfl
    rw [hS, repl_set]
   rcases ho with ho | ho | ho
   ·rw [ho] at hk
    exact absurd hk.2 (by simp)
   ·refine ReB.turn h2 ?_ (hout 0 (Or.inl ⟨ho, rfl⟩))
    unfold turnsO
    exact List.mem_flatMap.2 ⟨t, List.mem_range.2 ht, by rw [if_pos ho]; simp⟩
   ·refine ReB.turn h2 ?_ (hout i.addr.toNat (Or.inr ⟨ho, rfl⟩))
    unfold turnsO
    refine List.mem_flatMap.2 ⟨t, List.mem_range.2 ht, ?_⟩
    rw [if_neg (by omega), if_pos ho]
    exact List.mem_cons_of_mem _ (List.mem_map.2 ⟨_, List.mem_range.2 ha, rfl⟩)
  ·rw [do_sc hk] at hin
   exact ReB.turn ih (turnsO_in ht) hin
theorem re_sc {l : Lit} {B : BS} (h : ReB l 1 B) : ∃ S, ScR l S /\ B = ⟨S, List.replicate l.tn []⟩ := by
 induction h with
 | first => exact ⟨_, ScR.first, rfl⟩
 | turn hB hu hd ih =>
  rename_i B B' u
  obtain ⟨S, hS, rfl⟩ := ih
  unfold turnsO at hu
  obtain ⟨t, ht, hu⟩ := List.mem_flatMap.1 hu
  have ht := List.mem_range.1 ht
  have hu : u = tnB t := by simpa using hu
  subst hu
  cases hp : (codeOf l t)[S.p t]? with
  | none =>
   unfold turnB at hd
   rw [if_pos ⟨by show (0 : Int) <= t; omega, by show (t : Int) < _; omega⟩, if_neg (by simp [tnB])] at hd
   have e : (tnB t).t.toNat = t := rfl
   rw [e] at hd
   rw [hp] at hd
   cases hd
  | some i =>
   rw [turn_in (B := ⟨S, _⟩) ht hp, do_sc (by simp)] at hd
   injection hd with hd
   subst hd
   have hp2 : pickS l S (tnB t) = some i := by rw [pick_t ht]; exact hp
   exact ⟨_, ScR.turn hS ht hp2, by rw [turn_t hp2]⟩
theorem finals_same {l : Lit} {o : Nat} (hok : okLit l = true) (hlw : l.ws.length = l.wn) (hf : freeN l = .free) (ho : o = 2 ∨ o = 3) (W R : List Int) :
  (∃ B, ReB l o B /\ finB l B = true /\ B.S.ws = W /\ B.S.rs = R) ↔ ∃ B, ReB l 1 B /\ finB l B = true /\ B.S.ws = W /\ B.S.rs = R := by
 obtain ⟨ns, hS, hc⟩ := free_cl hok hlw hf
 constructor
 ·rintro ⟨B, hB, hF, rfl, rfl⟩
  obtain ⟨x, hx, hs⟩ := re_sim hok hlw (by omega) hS hc hB
  have hF := finB_iff.1 hF
  have hb : ∀ t, B.b t = [] := fun t => by
   by_cases ht : t < l.tn
   ·exact (hF t ht).2
   ·unfold BS.b
    rw [List.getD_eq_getElem?_getD, List.getElem?_eq_none (by rw [hs.ql]; omega)]
    rfl
  obtain ⟨j, hj⟩ := List.mem_iff_getElem?.1 hx
  have okx := (hS.ok j x hj).1
  have hw : B.S.ws = x.S.ws := by
   apply List.ext_getElem?
   intro a
   have h9 := hs.wd0 a (fun t => by rw [hb]; rfl)
   by_cases ha : a < l.wn
   ·rw [LS.w_at (S := B.S) (by rw [hs.wl]; exact ha), LS.w_at (S := x.S) (by rw [okx.good.w]; exact ha), h9]
   ·rw [List.getElem?_eq_none (by rw [hs.wl]; omega), List.getElem?_eq_none (by rw [okx.good.w]; omega)]
  refine ⟨⟨x.S, List.replicate l.tn []⟩, sc_re hok (Or.inl rfl) (hS.sc x hx), finB_iff.2 fun t ht => ⟨?_, first_b l x.S t⟩, hw.symm, hs.rs.symm⟩
  have := (hF t ht).1
  unfold LS.p at this ⊢
  rw [<- hs.ps]
  exact this
 ·rintro ⟨B, hB, hF, rfl, rfl⟩
  obtain ⟨S, hS2, rfl⟩ := re_sc hB
  exact ⟨_, sc_re hok (Or.inr ho) hS2, hF, rfl, rfl⟩
end Go.Proofs.YtgjdgapfnfhklaaGreat
