/-
Every number of a litmus run fits an int. Plain data. Every 
-/
import Derived.Test.YtgjdgapfnfhklaaGreatZ4
import Derived.Test.YtgjdgapfnfhklaaGreatZ7
import Derived.OpenShut
import Derived.Test.YtgjdgapfnfhklaaGreatZ6
import Derived.Test.YtgjdgapfnfhklaaGreatZ10
import Derived.Test.YtgjdgapfnfhklaaGreatZ13
import Derived.Test.YtgjdgapfnfhklaaGreatPar
import Derived.Test.YtgjdgapfnfhklaaGreatZ16
import Derived.Test.YtgjdgapfnfhklaaGreatRb27
import Derived.Test.YtgjdgapfnfhklaaGreatRt27
set_option linter.unusedSimpArgs false
set_option linter.unusedVariables false
set_option maxRecDepth 100000
set_option maxHeartbeats 16000000
namespace Go.Proofs.YtgjdgapfnfhklaaGreat
open Go.RowKit
def wfI (z : Int) : Prop := (Go.Lit.int .i64 z).wf = true
theorem wfI_of {z : Int} (h : -9223372036854775808 <= z /\ z <= 9223372036854775807) : wfI z := by
 have : (decide (IntKind.i64.min <= z) && decide (z <= IntKind.i64.max)) = true := by
  rw [show IntKind.i64.min = -9223372036854775808 from by decide, show IntKind.i64.max = 9223372036854775807 from by decide]
  simp
  exact h
 exact this
structure WfS (S : LS) : Prop where
 w : ∀ z ∈ S.ws, wfI z
 r : ∀ z ∈ S.rs, wfI z
structure WfL (l : Lit) : Prop where
 w : ∀ z ∈ l.ws, wfI z
 v : ∀ y ∈ l.th, ∀ i ∈ y.2, wfI i.value
theorem wfI_get {L : List Int} (h : ∀ z ∈ L, wfI z) (i : Nat) : wfI (L.getD i 0) := by
 rw [List.getD_eq_getElem?_getD]
 cases hi : L[i]? with
 | none => exact wfI_of (by decide)
 | some z => exact h z (List.mem_of_getElem? hi)
theorem wfI_set {L : List Int} (h : ∀ z ∈ L, wfI z) (i : Nat) {v : Int} (hv : wfI v) : ∀ z ∈ L.set i v, wfI z := fun z hz => by
 rcases List.mem_or_eq_of_mem_set hz with h1 | h1
 ·exact h z h1
 ·rw [h1]; exact hv
theorem WfS.eff {S : LS} (h : WfS S) (t : Nat) {x : Ins} (hx : wfI x.value) : WfS (effS S t x) := by
 have hr : ∀ q, wfI (S.r t q) := fun q => wfI_get h.r _
 have hw : ∀ a, wfI (S.w a) := fun a => wfI_get h.w _
 unfold effS
 split
 ·exact ⟨h.w, wfI_set h.r _ (hw _)⟩
 ·split
  ·refine ⟨wfI_set h.w _ ?_, h.r⟩
   split
   ·exact hr _
   ·exact hx
  ·split
   ·split
    ·exact ⟨wfI_set h.w _ hx, wfI_set h.r _ (wfI_of (by decide))⟩
    ·exact ⟨h.w, wfI_set h.r _ (wfI_of (by decide))⟩
   ·split
    ·exact ⟨h.w, wfI_set h.r _ hx⟩
    ·split
     ·exact ⟨h.w, wfI_set h.r _ (wf_wrap _ _)⟩
     ·exact h
theorem WfS.turn {l : Lit} {S : LS} (h : WfS S) (hl : WfL l) (u : Tn) : WfS (turnS l S u) := by
 unfold turnS
 cases hp : pickS l S u with
 | none => exact h
 | some x =>
  have hv : wfI x.value := by
   unfold pickS at hp
   split at hp
   ·have hm := List.mem_of_getElem? hp
    unfold codeOf at hm
    split at hm
    ·rename_i y hy
     exact hl.v y (List.mem_of_getElem? hy) x hm
    ·cases hm
   ·cases hp
  have h9 := h.eff u.t.toNat hv
  exact ⟨h9.w, h9.r⟩
theorem WfS.first {l : Lit} (hl : WfL l) : WfS (firstS l) := ⟨hl.w, fun z hz => by
 rw [(List.mem_replicate.1 hz).2]
 exact wfI_of (by decide)⟩
theorem ints_ok {L : List Int} (h : ∀ z ∈ L, wfI z) : IntsOk (ints L) := fun v hv => by
 obtain ⟨z, hz, rfl⟩ := List.mem_map.1 hv
 exact ⟨z, rfl, h z hz⟩
end Go.Proofs.YtgjdgapfnfhklaaGreat
namespace Go.Proofs.YtgjdgapfnfhklaaGreat
open Go.RowKit
theorem padV_ok {k : Nat} {xs : List Value} (h : IntsOk xs) : IntsOk (padV k xs) := fun v hv => by
 unfold padV at hv
 rcases List.mem_append.1 hv with h1 | h1
 ·exact h v h1
 ·rw [(List.mem_replicate.1 h1).2]
  exact ⟨0, rfl, wfI_of (by decide)⟩
theorem picV_ok {l : Lit} {x : Nd} (hx : OkN l x) (hw : WfS x.S) (hok : okLit l = true) (hth : l.th.length = l.tn) (hcl : ∀ y ∈ l.th, y.2.length = y.1.2.1) (hen : x.es.length <= 100000) : IntsOk (picV x) := by
 have hs := tsAt_small x.es x.es.length (Nat.le_refl _) (by omega)
 intro v hv
 unfold picV at hv
 simp only [List.mem_append] at hv
 rcases hv with h | h | h | h | h
 ·exact padV_ok (ints_ok hw.w) v h
 ·exact padV_ok (ints_ok hw.r) v h
 ·refine padV_ok (fun u hu => ?_) v h
  obtain ⟨p, hp, rfl⟩ := List.mem_map.1 hu
  refine ⟨p, rfl, wfI_of ?_⟩
  obtain ⟨t, ht⟩ := List.mem_iff_getElem?.1 hp
  have htn : t < l.tn := by
   have := (List.getElem?_eq_some_iff.1 ht).1
   rw [hx.good.p] at this
   exact this
  have hle := hx.good.le t htn
  have hpt : x.S.p t = p := by unfold LS.p; rw [List.getD_eq_getElem?_getD, ht]; rfl
  obtain ⟨y, hy⟩ := at_lt (show t < l.th.length by rw [hth]; exact htn)
  have h10 := (okLit_code hok hy).1
  have hc := hcl y (List.mem_of_getElem? hy)
  rw [codeOf_at hy, hc, hpt] at hle
  omega
 ·unfold tL at h
  refine ints_ok (fun z hz => ?_) v h
  obtain ⟨c, _, rfl⟩ := List.mem_map.1 hz
  unfold tC
  refine wfI_of ?_
  split
  ·have h1 := hs.m0 (c / 4) (c % 4)
   have h2 := hs.mj (c / 4) (c % 4)
   have h1' : 0 <= (xAt x.es).m (c / 4) (c % 4) := h1
   have h2' : (xAt x.es).m (c / 4) (c % 4) <= x.es.length := h2
   omega
  ·have h1 := hs.w0 ((c - 16) / 4) ((c - 16) % 4)
   have h2 := hs.wj ((c - 16) / 4) ((c - 16) % 4)
   have h1' : 0 <= (xAt x.es).wd ((c - 16) / 4) ((c - 16) % 4) := h1
   have h2' : (xAt x.es).wd ((c - 16) / 4) ((c - 16) % 4) <= x.es.length := h2
   omega
 ·unfold lastL at h
  refine ints_ok (fun z hz => ?_) v h
  obtain ⟨c, _, rfl⟩ := List.mem_map.1 hz
  unfold lastC
  refine wfI_of ?_
  rcases (lastAt_spec x.es (kdOf (c % 4)) (c / 16) (c / 4 % 4) (by omega) x.es.length (Nat.le_refl _)).2 with h0 | ⟨i, e, hi, he, _, _, _, hv9⟩
  ·have h0' : lastE x.es (kdOf (c % 4)) (c / 16) (c / 4 % 4) = 0 := h0
   omega
  ·have hv' : lastE x.es (kdOf (c % 4)) (c / 16) (c / 4 % 4) = ckAt x.es i e.t := hv9
   rw [hv', ckAt_own he]
   have h3 := tsAt_small x.es (i + 1) (by omega) (by omega)
   have h4 := h3.m0 e.t e.t
   have h5 := h3.mj e.t e.t
   push_cast at h5
   omega
end Go.Proofs.YtgjdgapfnfhklaaGreat
namespace Go.Proofs.YtgjdgapfnfhklaaGreat
open Go.RowKit
def ldI (r a : Int) : Ins := ⟨1, r, a, 0, 0, 0, 0⟩
def stI (a v : Int) : Ins := ⟨2, 0, a, v, -1, 0, 0⟩
def fnI : Ins := ⟨4, 0, 0, 0, 0, 0, 0⟩
def skI (r v : Int) : Ins := ⟨7, r, 0, v, 0, 0, 1⟩
def swI (r a o v : Int) : Ins := ⟨3, r, a, v, 0, o, 0⟩
def clsT : Nat -> List (List Ins)
 | 0 => [[stI 0 1, ldI 0 1], [stI 1 1, ldI 0 0]]
 | 1 => [[stI 0 1, stI 1 1], [ldI 0 1, ldI 1 0]]
 | 2 => [[ldI 0 0, stI 1 1], [ldI 0 1, stI 0 1]]
 | 3 => [[stI 0 1], [stI 1 1], [ldI 0 0, ldI 1 1], [ldI 0 1, ldI 1 0]]
 | 4 => [[stI 0 1, stI 1 1], [stI 1 2, ldI 0 0]]
 | 5 => [[stI 0 2, stI 1 1], [ldI 0 1, stI 0 1]]
 | 6 => [[stI 0 1, stI 1 2], [stI 1 1, stI 0 2]]
 | 7 => [[stI 0 1, fnI, ldI 0 1], [stI 1 1, fnI, ldI 0 0]]
 | 8 => [[stI 1 1, ldI 0 0, skI 0 0, ldI 1 2], [swI 0 0 1 0, ldI 1 1, skI 1 1, stI 2 (-1)]]
 | 9 => [[stI 1 1, fnI, ldI 0 0, skI 0 0, ldI 1 2], [swI 0 0 1 0, ldI 1 1, skI 1 1, stI 2 (-1)]]
 | _ => [[stI 0 5, swI 0 1 0 1], [swI 0 1 1 2, skI 0 0, ldI 1 0]]
def clsW (k : Nat) : List Int := if k = 8 ∨ k = 9 then [1, 0, 7] else [0, 0]
def wayC : Nat -> List Nat
 | 3 => [0, 2]
 | 7 => [0, 0, 0, 1]
 | 9 => [0, 1, 1]
 | _ => [0, 0, 1]
structure ClsOk (l : Lit) (wy : List Nat) : Prop where
 ok : okLit l = true
 wf : WfL l
 free : freeN l = .race wy
 pos : 0 < wy.length /\ wy.length <= 4096
 one : (rcsE (playE l (wy.map tnW) (wy.map tnW).length) (playE l (wy.map tnW) (wy.map tnW).length).length).isEmpty = false
 none : rcsE (playE l ((wy.map tnW).take (wy.length - 1)) ((wy.map tnW).take (wy.length - 1)).length) (playE l ((wy.map tnW).take (wy.length - 1)) ((wy.map tnW).take (wy.length - 1)).length).length = []
theorem th2 {th : List (Hd × List Ins)} {c d : List Ins} (h : th.map (·.2) = [c, d]) (hl : ∀ y ∈ th, y.1.2.1 = y.2.length) : ∃ a i b j, th = [((a, c.length, i), c), ((b, d.length, j), d)] := by
 match th, h, hl with
 | [((a, n, i), c'), ((b, m, j), d')], h, hl =>
  simp at h
  obtain ⟨rfl, rfl⟩ := h
  have h1 := hl _ (List.mem_cons_self ..)
  have h2 := hl _ (List.mem_cons_of_mem _ (List.mem_cons_self ..))
  dsimp only at h1 h2
  subst h1 h2
  exact ⟨a, i, b, j, rfl⟩
 | [], h, _ => simp at h
 | [_], h, _ => simp at h
 | _ :: _ :: _ :: _, h, _ => simp at h
theorem th4 {th : List (Hd × List Ins)} {c d e f : List Ins} (h : th.map (·.2) = [c, d, e, f]) (hl : ∀ y ∈ th, y.1.2.1 = y.2.length) : ∃ a i b j g k m o, th = [((a, c.length, i), c), ((b, d.length, j), d), ((g, e.length, k), e), ((m, f.length, o), f)] := by
 match th, h, hl with
 | x :: y :: th', h, hl =>
  have h1 : [x, y].map (·.2) = [c, d] := by simp at h ⊢; exact ⟨h.1, h.2.1⟩
  have h2 : th'.map (·.2) = [e, f] := by simp at h ⊢; exact h.2.2
  obtain ⟨a, i, b, j, e1⟩ := th2 h1 (fun z hz => hl z (by simp at hz ⊢; rcases hz with h | h <;> simp [h]))
  obtain ⟨g, k, m, o, e2⟩ := th2 h2 (fun z hz => hl z (List.mem_cons_of_mem _ (List.mem_cons_of_mem _ hz)))
  injection e1 with e1 e3
  injection e3 with e3 _
  subst e1 e3 e2
  exact ⟨a, i, b, j, g, k, m, o, rfl⟩
 | [], h, _ => simp at h
 | [_], h, _ => simp at h
theorem wf_codes {l : Lit} {ws : List Int} {cs : List (List Ins)} (hw : l.ws = ws) (hc : l.th.map (·.2) = cs) (h1 : ∀ z ∈ ws, (Lit.int .i64 z).wf = true) (h2 : ∀ c ∈ cs, ∀ i ∈ c, (Lit.int .i64 i.value).wf = true) : WfL l := by
 subst hw hc
 exact ⟨h1, fun y hy => h2 y.2 (List.mem_map_of_mem hy)⟩
theorem cls_ok {k : Nat} {l : Lit} (hk : k < 10) (hw : l.ws = clsW k) (hc : l.th.map (·.2) = clsT k) (hwn : l.ws.length = l.wn) (htn : l.th.length = l.tn) (hl : ∀ y ∈ l.th, y.1.2.1 = y.2.length) : ClsOk l (wayC k) := by
 have hwf : WfL l := wf_codes hw hc ((show ∀ k, k < 10 -> ∀ z ∈ clsW k, (Lit.int .i64 z).wf = true by decide) k hk) ((show ∀ k, k < 10 -> ∀ c ∈ clsT k, ∀ i ∈ c, (Lit.int .i64 i.value).wf = true by decide) k hk)
 obtain ⟨wA, wn, wk, ws, tA, tn, tk, th⟩ := l
 dsimp only at hw hc hwn htn hl
 subst hw
 match k, hk, hc with
 | 0, _, hc => obtain ⟨a, i, b, j, rfl⟩ := th2 hc hl; cases hwn; cases htn; exact ⟨by kernel_rfl, hwf, by kernel_rfl, by decide, by kernel_rfl, by kernel_rfl⟩
 | 1, _, hc => obtain ⟨a, i, b, j, rfl⟩ := th2 hc hl; cases hwn; cases htn; exact ⟨by kernel_rfl, hwf, by kernel_rfl, by decide, by kernel_rfl, by kernel_rfl⟩
 | 2, _, hc => obtain ⟨a, i, b, j, rfl⟩ := th2 hc hl; cases hwn; cases htn; exact ⟨by kernel_rfl, hwf, by kernel_rfl, by decide, by kernel_rfl, by kernel_rfl⟩
 | 3, _, hc => obtain ⟨a, i, b, j, g, p, m, o, rfl⟩ := th4 hc hl; cases hwn; cases htn; exact ⟨by kernel_rfl, hwf, by kernel_rfl, by decide, by kernel_rfl, by kernel_rfl⟩
 | 4, _, hc => obtain ⟨a, i, b, j, rfl⟩ := th2 hc hl; cases hwn; cases htn; exact ⟨by kernel_rfl, hwf, by kernel_rfl, by decide, by kernel_rfl, by kernel_rfl⟩
 | 5, _, hc => obtain ⟨a, i, b, j, rfl⟩ := th2 hc hl; cases hwn; cases htn; exact ⟨by kernel_rfl, hwf, by kernel_rfl, by decide, by kernel_rfl, by kernel_rfl⟩
 | 6, _, hc => obtain ⟨a, i, b, j, rfl⟩ := th2 hc hl; cases hwn; cases htn; exact ⟨by kernel_rfl, hwf, by kernel_rfl, by decide, by kernel_rfl, by kernel_rfl⟩
 | 7, _, hc => obtain ⟨a, i, b, j, rfl⟩ := th2 hc hl; cases hwn; cases htn; exact ⟨by kernel_rfl, hwf, by kernel_rfl, by decide, by kernel_rfl, by kernel_rfl⟩
 | 8, _, hc => obtain ⟨a, i, b, j, rfl⟩ := th2 hc hl; cases hwn; cases htn; exact ⟨by kernel_rfl, hwf, by kernel_rfl, by decide, by kernel_rfl, by kernel_rfl⟩
 | 9, _, hc => obtain ⟨a, i, b, j, rfl⟩ := th2 hc hl; cases hwn; cases htn; exact ⟨by kernel_rfl, hwf, by kernel_rfl, by decide, by kernel_rfl, by kernel_rfl⟩
theorem ex4_ok {l : Lit} (hw : l.ws = clsW 10) (hc : l.th.map (·.2) = clsT 10) (hwn : l.ws.length = l.wn) (htn : l.th.length = l.tn) (hl : ∀ y ∈ l.th, y.1.2.1 = y.2.length) : okLit l = true /\ WfL l /\ freeN l = .free := by
 have hwf : WfL l := wf_codes hw hc (by decide) (by decide)
 obtain ⟨wA, wn, wk, ws, tA, tn, tk, th⟩ := l
 dsimp only at hw hc hwn htn hl
 subst hw
 obtain ⟨a, i, b, j, rfl⟩ := th2 hc hl
 cases hwn
 cases htn
 exact ⟨by kernel_rfl, hwf, by kernel_rfl⟩
end Go.Proofs.YtgjdgapfnfhklaaGreat
namespace Go.Proofs.YtgjdgapfnfhklaaGreat
open Go.RowKit Go.Maps
structure WfB (B : BS) : Prop where
 s : WfS B.S
 q : ∀ t, ∀ p ∈ B.b t, wfI p.2
theorem WfB.first {l : Lit} (hl : WfL l) : WfB (firstB l) := ⟨WfS.first hl, fun t p hp => by
 unfold firstB at hp
 have : BS.b ⟨firstS l, List.replicate l.tn []⟩ t = [] := by
  show (List.replicate l.tn []).getD t [] = []
  rw [List.getD_eq_getElem?_getD, List.getElem?_replicate]
  split <;> rfl
 rw [this] at hp
 cases hp⟩
theorem lastQ_mem : ∀ {q : List Pd} {a : Nat} {v : Int}, lastQ q a = some v -> ∃ p ∈ q, p.2 = v
 | [], a, v, h => by cases h
 | p :: q, a, v, h => by
  rw [lastQ] at h
  split at h
  ·rename_i z hz
   injection h with h
   subst h
   obtain ⟨p', h1, h2⟩ := lastQ_mem hz
   exact ⟨p', List.mem_cons_of_mem _ h1, h2⟩
  ·split at h
   ·injection h with h
    exact ⟨p, by simp, h⟩
   ·cases h
theorem code_wf {l : Lit} (hl : WfL l) {t k : Nat} {x : Ins} (h : (codeOf l t)[k]? = some x) : wfI x.value := by
 have hm := List.mem_of_getElem? h
 unfold codeOf at hm
 split at hm
 ·rename_i y hy
  exact hl.v y (List.mem_of_getElem? hy) x hm
 ·cases hm
theorem WfB.turn {l : Lit} {o : Nat} {B B' : BS} {u : Tn} (h : WfB B) (hl : WfL l) (hk : OkB l B) (hB : turnB l o B u = some B') : WfB B' := by
 unfold turnB at hB
 split at hB
 case isFalse => cases hB
 rename_i ht
 generalize hT : u.t.toNat = T at hB
 have hTn : T < l.tn := by omega
 by_cases hu : u.out = true
 ·(try rw [if_pos hu] at hB)
  cases hq : outQ o u.a (B.b T) with
  | none => rw [hq] at hB; cases hB
  | some z =>
   obtain ⟨p, r⟩ := z
   rw [hq] at hB
   have hB : some (⟨⟨B.S.ws.set p.1 p.2, B.S.rs, B.S.ps⟩, B.q.set T r⟩ : BS) = some B' := hB
   injection hB with hB
   subst hB
   obtain ⟨s, s', e1, e2, _⟩ := outQ_spec hq
   have hp : wfI p.2 := h.q T p (by rw [e1]; simp)
   refine ⟨⟨wfI_set h.s.w _ hp, h.s.r⟩, fun i p' hp' => ?_⟩
   rw [b_set r (by rw [hk.ql]; exact hTn)] at hp'
   split at hp'
   ·rename_i hi
    subst hi
    refine h.q i p' ?_
    rw [e1]
    rw [e2] at hp'
    rcases List.mem_append.1 hp' with h9 | h9
    ·exact List.mem_append_left _ h9
    ·exact List.mem_append_right _ (List.mem_cons_of_mem _ h9)
   ·exact h.q i p' hp'
 ·(try rw [if_neg hu] at hB)
  cases hp : (codeOf l T)[B.S.p T]? with
  | none => rw [hp] at hB; cases hB
  | some x =>
   rw [hp] at hB
   have hB : doB (!decide (o = 1)) B T (codeOf l T).length x = some B' := hB
   have hx := code_wf hl hp
   unfold doB at hB
   split at hB
   ·injection hB with hB
    subst hB
    refine ⟨⟨h.s.w, wfI_set h.s.r _ ?_⟩, h.q⟩
    unfold BS.see
    cases hz : lastQ (B.b T) x.addr.toNat with
    | none => exact wfI_get h.s.w _
    | some v =>
     obtain ⟨p, h1, h2⟩ := lastQ_mem hz
     have := h.q T p h1
     rw [h2] at this
     exact this
   ·split at hB
    ·injection hB with hB
     subst hB
     refine ⟨⟨h.s.w, h.s.r⟩, fun i p' hp' => ?_⟩
     rw [b_set _ (by rw [hk.ql]; exact hTn)] at hp'
     split at hp'
     ·rcases List.mem_append.1 hp' with h9 | h9
      ·exact h.q T p' h9
      ·rw [List.mem_singleton] at h9
       subst h9
       show wfI (valS B.S T x)
       unfold valS
       split
       ·exact wfI_get h.s.r _
       ·exact hx
     ·exact h.q i p' hp'
    ·split at hB
     ·cases hB
     ·injection hB with hB
      subst hB
      have h9 := h.s.eff T hx
      exact ⟨⟨h9.w, h9.r⟩, h.q⟩
theorem keyB_ok {l : Lit} {B : BS} (hB : OkB l B) (hw : WfB B) (hc : ∀ t, (codeOf l t).length <= 10) (hn : l.tn <= 4) (hw6 : l.wn <= 6) : (keyB l B).length = 110 /\ IntsOk (keyB l B) := by
 have key : ∀ t, t <= l.tn -> (picB B t).length <= 6 + 26 * t /\ ∀ z ∈ picB B t, wfI z := by
  intro t
  induction t with
  | zero => exact fun _ => ⟨by show B.S.ws.length <= _; rw [hB.good.w]; omega, hw.s.w⟩
  | succ t ih =>
   intro ht
   obtain ⟨h1, h2⟩ := ih (by omega)
   have hb := hB.buf t (by omega)
   have hp := hB.good.le t (by omega)
   have hc9 := hc t
   refine ⟨?_, fun z hz => ?_⟩
   ·show (picB B t ++ thrL B.S (B.b t) t).length <= _
    rw [List.length_append, thrL_len]
    omega
   ·rcases List.mem_append.1 (show z ∈ picB B t ++ thrL B.S (B.b t) t from hz) with h9 | h9
    ·exact h2 z h9
    ·unfold thrL at h9
     rcases List.mem_append.1 h9 with h9 | h9
     ·simp only [List.mem_cons, List.not_mem_nil, or_false] at h9
      rcases h9 with rfl | rfl | rfl | rfl | rfl | rfl
      ·exact wfI_get hw.s.r _
      ·exact wfI_get hw.s.r _
      ·exact wfI_get hw.s.r _
      ·exact wfI_get hw.s.r _
      ·exact wfI_of (by omega)
      ·exact wfI_of (by omega)
     ·obtain ⟨p, hp1, hp2⟩ := List.mem_flatMap.1 h9
      have ha := hb.2 p hp1
      simp only [List.mem_cons, List.not_mem_nil, or_false] at hp2
      rcases hp2 with rfl | rfl
      ·exact wfI_of (by omega)
      ·exact hw.q t p hp1
 obtain ⟨h1, h2⟩ := key l.tn (Nat.le_refl _)
 refine ⟨padI_len (by omega), ?_⟩
 unfold keyB
 rw [padI_as]
 refine ints_ok fun z hz => ?_
 rcases List.mem_append.1 hz with h9 | h9
 ·exact h2 z h9
 ·rw [(List.mem_replicate.1 h9).2]
  exact wfI_of (by decide)
end Go.Proofs.YtgjdgapfnfhklaaGreat
namespace Go.Proofs.YtgjdgapfnfhklaaGreat
open Go.RowKit Go.Maps
structure SR where
 h : SH
 S : LS
 bs : List Bf
 fr : Int
 by_ : Tn
def SR.B (r : SR) : BS := ⟨r.S, r.bs.map (·.q)⟩
abbrev stpL (h : SH) (n nw : Nat) (fr : Int) (u : Tn) : List Value := [.slice (some ⟨h.gw, 0, none⟩) nw h.kw, .slice (some ⟨h.gr, 0, none⟩) n h.kr, .slice (some ⟨h.gp, 0, none⟩) n h.kp, .slice (some ⟨h.gb, 0, none⟩) n h.kb, .int .i64 fr, .int .i64 u.t, .bool u.out, .int .i64 u.a]
def SR.cs (l : Lit) (r : SR) : List Value := stpL r.h l.tn l.wn r.fr r.by_
theorem Blk.nmap {W : World} {g gm m : Nat} {t : TypeId} {xs : List Value} {ks : List (List Value)} (h1 : Blk W g t xs) (hm : PtMap W gm m ks) : g ≠ gm := by
 obtain ⟨D, ⟨es, clock, h2, _⟩, _⟩ := hm
 rintro rfl
 unfold Blk at h1
 rw [h1] at h2
 cases h2
section
variable {W W' : World} {h : SH} {n nw : Nat} {S : LS} {bs : List Bf}
theorem StQ.keptR {row : Option Nat} (s : StQ W h n nw S bs) (hg : W.grownBy W' row) (hr : ∀ g T cs, Blk W g T cs -> T ≠ 118 -> some g ≠ row) : StQ W' h n nw S bs := by
 have hw : ∀ {g : Nat} {T : TypeId} {sz m k : Nat} {xs : List Value}, Rw W g T sz m k xs -> T ≠ 118 -> some g ≠ row := fun hR hT => by
  obtain ⟨_, cs, h1, _⟩ := hR
  exact hr _ _ _ h1 hT
 refine ⟨s.w.grown hg (hw s.w (by decide)), s.r.grown hg (hw s.r (by decide)), s.p.grown hg (hw s.p (by decide)), s.b.grown hg (hw s.b (by decide)), fun x hx => ⟨(s.own x hx).1, (s.own x hx).2.kept hg ?_⟩, s.far, s.ne⟩
 rcases (s.own x hx).2.2 with ⟨h0, _⟩ | ⟨g, cap, cur, hv, _, hg9, _⟩
 ·exact Or.inl (by rw [h0]; rfl)
 ·refine Or.inr fun he => ?_
  rw [hv] at he
  exact hr g 180 cur.toList (by unfold Blk; rw [hg9]) (by decide) he
theorem StQ.gmap {gm m : Nat} {ks : List (List Value)} (s : StQ W h n nw S bs) (hm : PtMap W gm m ks) (hg : W.grownBy W' (some gm)) : StQ W' h n nw S bs := s.keptR hg fun g T cs hB _ he => by
 injection he with he
 exact hB.nmap hm he
theorem StQ.gown {C sz m : Nat} {v : Value} {xs : List Value} (s : StQ W h n nw S bs) (ho : W.ownsRow C 118 sz v m xs) (hg : W.grownBy W' v.ownBlock) : StQ W' h n nw S bs := s.keptR hg fun g T cs hB hT => own_nb ho hB (Ne.symm hT)
end
structure WlI (l : Lit) (w W : World) (gm : Nat) (rs : List SR) (vN : Value) : Prop where
 bel : Below w.heap.size w W
 gmB : w.heap.size < gm
 lit : Blk W w.heap.size 25 (litL l)
 own : W.ownsRow w.heap.size 118 8 vN rs.length (rs.flatMap (SR.cs l))
 node : ∀ r ∈ rs, StQ W r.h l.tn l.wn r.S r.bs /\ NewQ w.heap.size r.h r.bs /\ OkB l r.B /\ WfB r.B
 map : PtMap W gm rs.length (rs.map fun r => keyB l r.B)
 ap : some gm ≠ vN.ownBlock
section
variable {l : Lit} {w W W' W2 W3 : World} {gm : Nat} {rs : List SR} {vN v' : Value} {r : SR}
theorem WlI.on (H : WlI l w W gm rs vN) (hb : Below W.heap.size W W') : WlI l w W' gm rs vN where
 bel := H.bel.trans (hb.mono H.bel.size)
 gmB := H.gmB
 lit := H.lit.below hb H.lit.lt
 own := H.own.below hb
 node := fun r hr => ⟨(H.node r hr).1.on hb, (H.node r hr).2⟩
 map := H.map.on hb
 ap := H.ap
structure WlP (l : Lit) (w W : World) (gm : Nat) (rs : List SR) (vN : Value) (r : SR) : Prop where
 bel : Below w.heap.size w W
 gmB : w.heap.size < gm
 lit : Blk W w.heap.size 25 (litL l)
 own : W.ownsRow w.heap.size 118 8 vN rs.length (rs.flatMap (SR.cs l))
 node : ∀ r ∈ rs, StQ W r.h l.tn l.wn r.S r.bs /\ NewQ w.heap.size r.h r.bs /\ OkB l r.B /\ WfB r.B
 map : PtMap W gm (rs.length + 1) ((rs.map fun r => keyB l r.B) ++ [keyB l r.B])
 ap : some gm ≠ vN.ownBlock
 new : StQ W r.h l.tn l.wn r.S r.bs /\ NewQ w.heap.size r.h r.bs /\ OkB l r.B /\ WfB r.B
theorem WlI.put (H : WlI l w W gm rs vN) (hr : StQ W r.h l.tn l.wn r.S r.bs /\ NewQ w.heap.size r.h r.bs /\ OkB l r.B /\ WfB r.B) (hm : PtMap W' gm (rs.length + 1) ((rs.map fun r => keyB l r.B) ++ [keyB l r.B])) (hg : W.grownBy W' (some gm)) : WlP l w W' gm rs vN r where
 bel := H.bel.grown hg H.bel.size (fun q hq => by have := H.gmB; injection hq with hq; omega)
 gmB := H.gmB
 lit := H.lit.grown hg (fun e => by have := H.gmB; injection e with e; omega)
 own := H.own.kept hg (by
  cases hv : vN.ownBlock with
  | none => exact Or.inl rfl
  | some q => exact Or.inr (fun e => H.ap (by rw [hv, e])))
 node := fun r hr => ⟨(H.node r hr).1.gmap H.map hg, (H.node r hr).2⟩
 map := hm
 ap := H.ap
 new := ⟨hr.1.gmap H.map hg, hr.2⟩
theorem WlP.snoc (H : WlP l w W gm rs vN r) (hg : W.grownBy W3 vN.ownBlock) (ho : W3.ownsRow w.heap.size 118 8 v' (rs.length + 1) (rs.flatMap (SR.cs l) ++ SR.cs l r)) (hat : v'.ownBlock = vN.ownBlock ∨ ∀ g, v'.ownBlock = some g -> W.heap.size <= g) : WlI l w W3 gm (rs ++ [r]) v' where
 bel := H.bel.grown hg H.bel.size (fun q hq => (H.own.lt q hq).1)
 gmB := H.gmB
 lit := H.lit.grown hg (own_nb H.own H.lit (by decide))
 own := by
  rw [List.flatMap_append, List.flatMap_cons, List.flatMap_nil, List.append_nil, List.length_append]
  exact ho
 node := fun r' hr' => by
  rcases List.mem_append.1 hr' with h9 | h9
  ·exact ⟨(H.node r' h9).1.gown H.own hg, (H.node r' h9).2⟩
  ·rw [List.mem_singleton] at h9
   subst h9
   exact ⟨H.new.1.gown H.own hg, H.new.2⟩
 map := by
  rw [List.map_append, List.length_append]
  exact H.map.kept hg H.ap
 ap := by
  rcases hat with h9 | h9
  ·rw [h9]; exact H.ap
  ·intro e
   have := h9 gm e.symm
   have := H.map.lt
   omega
theorem SR.cs_len (l : Lit) (r : SR) : (SR.cs l r).length = 8 := rfl
theorem WlI.cells (H : WlI l w W gm rs vN) {j : Nat} (hj : rs[j]? = some r) : ∃ g k, vN = .slice (some ⟨g, 0, none⟩) rs.length k /\ ∀ i v, (SR.cs l r)[i]? = some v -> W.cell? ⟨g, j * 8 + i, none⟩ = some v := by
 have hl := (List.getElem?_eq_some_iff.1 hj).1
 rcases H.own.2 with ⟨_, h0⟩ | ⟨g, cap, cur, hv, _⟩
 ·omega
 ·refine ⟨g, cap, hv, fun i v hi => ?_⟩
  have hi8 := (List.getElem?_eq_some_iff.1 hi).1
  rw [SR.cs_len] at hi8
  have ho := H.own
  rw [hv] at ho
  rw [World.ownsRow.cellAt ho _ (by omega), flat_get (SR.cs l) 8 (SR.cs_len l) hj i hi8]
  exact hi
end
end Go.Proofs.YtgjdgapfnfhklaaGreat
namespace Go.Proofs.YtgjdgapfnfhklaaGreat
open Go.RowKit
theorem rt27_any (l : Lit) (w : World) (B gs : Nat) (S : LS) (es : List Ev) (M : RM) (u : Tn) (hl : LitAt w B l) (hBw : B <= w.heap.size) (hgs : B <= gs) (hb : Blk w gs 80 (rsL M l.tn l.wn)) (hr : RSB w B l.tn l.wn S (xAt es) es M) (hg : GoodS l S) (hok : okLit l = true) (hen : es.length <= 100000) :
  Calls Tryz.prog 22 #[litV l, .pointer (some ⟨gs, 0, none⟩), tnV u] w (Rt27R l B gs S es u M.Z w) := by
 cases hp : pickS l S u with
 | some x => exact rt27_yes l w B gs S es M u x hl hBw hgs hb hr hg hok hen hp
 | none =>
  refine (rt27_no l w B gs S es M u hl hBw hb hr hg hok hp).mono ?_
  rintro e w' ⟨rfl, hb9⟩
  obtain ⟨e1, e2⟩ := pick_ev_none hp
  refine ⟨by rw [hp]; rfl, hb9.mono hBw, M, hb.below hb9 hb.lt, ?_⟩
  rw [e1]
  have : esN l S u es = es := by unfold esN; rw [e2]; simp
  rw [this]
  exact ⟨hr.on hb9, rfl⟩
end Go.Proofs.YtgjdgapfnfhklaaGreat
