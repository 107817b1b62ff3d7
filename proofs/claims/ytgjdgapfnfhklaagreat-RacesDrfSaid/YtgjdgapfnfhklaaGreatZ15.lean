/-
tso.worker.load, with buffers. The seven rules under one nam
-/
import Derived.Test.YtgjdgapfnfhklaaGreatQwk
import Derived.Test.YtgjdgapfnfhklaaGreatZ18
set_option linter.unusedSimpArgs false
set_option linter.unusedVariables false
set_option maxRecDepth 100000
set_option maxHeartbeats 4000000
namespace Go.Proofs.YtgjdgapfnfhklaaGreat
open Go.RowKit
theorem lastQ_take {q : List Pd} {j : Nat} {p : Pd} (h : q[j]? = some p) (a : Nat) (v : Int) : (lastQ (q.take (j + 1)) a).getD v = if p.1 = a then p.2 else (lastQ (q.take j) a).getD v := by
 rw [take_snoc h, lastQ_app]
 show (match (if p.1 = a then some p.2 else none) with | some v => some v | none => lastQ (q.take j) a).getD v = _
 split <;> rename_i h9
 ·split at h9
  ·rename_i h8
   injection h9 with h9
   rw [if_pos h8, <- h9]
   rfl
  ·cases h9
 ·split at h9
  ·cases h9
  ·rename_i h8
   rw [if_neg h8]
section
variable {W W' : World} {gq gs : Nat} {h : SH} {n nw : Nat} {S : LS} {bs : List Bf} {t : Nat} {x : Ins} {lt : Bool} {y : Bf} {rg ad sr cn : Nat}
theorem WkQ.el (H : WkQ W gq gs h n nw S bs t x lt) (hy : bs[t]? = some y) {j : Nat} {p : Pd} (hp : y.q[j]? = some p) : ∃ g, y.hd.1 = some ⟨g, 0, none⟩ /\ W.cell? ⟨g, j * 2, none⟩ = some (.int .i64 p.1) /\ W.cell? ⟨g, j * 2 + 1, none⟩ = some (.int .i64 p.2) := by
 obtain ⟨hl, ho⟩ := H.st.own y (List.mem_of_getElem? hy)
 have hj := (List.getElem?_eq_some_iff.1 hp).1
 rcases ho.2 with ⟨_, h0⟩ | ⟨g, cap, cur, hv, _⟩
 ·omega
 ·have hv' := hv
  injection hv with hA _ hk
  rw [hv'] at ho
  refine ⟨g, hA, ?_, ?_⟩
  ·rw [World.ownsRow.cellAt ho _ (by omega)]
   exact pdVals_get hp 0 (by omega)
  ·rw [World.ownsRow.cellAt ho _ (by omega)]
   exact pdVals_get hp 1 (by omega)
def LdI (W : World) (gq gs : Nat) (h : SH) (n nw : Nat) (S : LS) (bs : List Bf) (t : Nat) (x : Ins) (lt : Bool) (rg ad : Nat) (q : List Pd) (j : Nat) (V : World) : Prop :=
 WkQ V gq gs h n nw ⟨S.ws, S.rs.set (t * 4 + rg) ((lastQ (q.take j) ad).getD (S.w ad)), S.ps⟩ bs t x lt /\ Fr (SQ h bs) W V
theorem LdI.miss {V V' : World} {q : List Pd} {j : Nat} {p : Pd} (H : LdI W gq gs h n nw S bs t x lt rg ad q j V) (hp : q[j]? = some p) (hpa : ¬ p.1 = ad) (hb : Below V.heap.size V V') : LdI W gq gs h n nw S bs t x lt rg ad q (j + 1) V' := by
 have hT := lastQ_take hp ad (S.w ad)
 rw [if_neg hpa] at hT
 refine ⟨?_, H.2.trans (Fr.of hb)⟩
 rw [hT]
 exact H.1.on hb
theorem LdI.hit {V V' : World} {q : List Pd} {j : Nat} {p : Pd} (H : LdI W gq gs h n nw S bs t x lt rg ad q j V) (hp : q[j]? = some p) (hpa : p.1 = ad) (hb : Below V.heap.size V V') : LdI W gq gs h n nw S bs t x lt rg ad q (j + 1) (V'.setCell ⟨h.gr, t * 4 + rg, none⟩ (.int .i64 p.2)) := by
 have hT := lastQ_take hp ad (S.w ad)
 rw [if_pos hpa] at hT
 refine ⟨?_, (H.2.trans (Fr.of hb)).setCell (Or.inr (Or.inl rfl)) _⟩
 rw [hT]
 have hE := (H.1.on hb).setR (t * 4 + rg) p.2
 dsimp only at hE
 rw [List.set_set] at hE
 exact hE
theorem loadQ (H : WkQ W gq gs h n nw S bs t x lt) (hy : bs[t]? = some y) (hr : x.reg = (rg : Int)) (hr4 : rg < 4) (ha : x.addr = (ad : Int)) (ha4 : ad < nw) :
  Calls Tryz.prog 79 #[.pointer (some ⟨gq, 0, none⟩)] W (WkQR h n nw ⟨S.ws, S.rs.set (t * 4 + rg) ((lastQ y.q ad).getD (S.w ad)), S.ps⟩ bs bs true W) := by
 obtain ⟨⟨A, yn, yk⟩, q⟩ := y
 dsimp only
 have hyl := (H.st.own _ (List.mem_of_getElem? hy)).1
 dsimp only at hyl
 subst hyl
 obtain ⟨k0, k1, k2, k3, k4, k5, k6, k7, k8, k9, s0, s1, s2, s3, g6, g7, e0, e1, g8⟩ := H.c
 rw [ha] at k3
 obtain ⟨g0, g1, e2, e3⟩ := H.rc hr4
 obtain ⟨g2, g3, e4, e5⟩ := H.wc ha4
 have hyk : q.length <= maxLen := by
  obtain ⟨_, _, hv, h1, h2⟩ := own_form (H.st.own _ (List.mem_of_getElem? hy)).2
  dsimp only at h1 h2
  omega
 unfold maxLen at hyk
 have HS : Hid (∀ V, Below W.heap.size W V -> WkQ V gq gs h n nw S bs t x lt) := fun V hV => H.on hV
 clear H
 go_enter Tryz.func79, Tryz.ntmps79
 go_upto_region 1 with fail
 go_cut [] (fun wc => Hid (LdI W gq gs h n nw S bs t x lt rg ad q 0 wc))
 case first =>
  go_region_with ((go_at_call 100; go_must (refine (regQ (HS.o _ (Below.refl _ _).drew) hr hr4).mono ?_; rintro e w3 ⟨rfl, m, rfl⟩)))
  all_goals (go_wp2_with fail; go_meet; exact ⟨(HS.o _ ((Below.refl _ _).drewN _)).setR _ _, (Fr.of ((Below.refl _ _).drewN _)).setCell (Or.inr (Or.inl rfl)) _⟩)
 case rest =>
 obtain ⟨V, rfl⟩ : ∃ V : World, V = wc := ⟨_, rfl⟩
 clear k0 k1 k2 k3 k4 k5 k6 k7 k8 k9 s0 s1 s2 s3 g0 g1 g2 g3 g6 g7 g8 HS
 have g5 := hcut.out.1.bc hy
 obtain ⟨k0, k1, k2, k3, k4, k5, k6, k7, k8, k9, s0, s1, s2, s3, g6, g7, _, _, g8⟩ := hcut.out.1.c
 go_upto_region 2 with fail
 go_quiet (fail)
 obtain ⟨V2, hV, HV⟩ : ∃ Z9, Z9 = V.drewN nq /\ Hid (LdI W gq gs h n nw S bs t x lt rg ad q 0 Z9) := ⟨_, rfl, hcut.out.1.on ((Below.refl _ _).drewN _), hcut.out.2.trans (Fr.of ((Below.refl _ _).drewN _))⟩
 rw [<- hV]
 clear hV hcut k0 k1 k2 k3 k4 k5 k6 k7 k8 k9 s0 s1 s2 s3 g5 g6 g7 g8
 go_wp2_with fail
 go_loopg [36] q.length (fun gk i wr => ∃ j : Nat, j + gk = q.length /\ i = .int .i64 j /\ Hid (LdI W gq gs h n nw S bs t x lt rg ad q j wr))
 case atStart => exact ⟨0, by omega, rfl, HV⟩
 case round =>
  clear HV
  obtain ⟨j, hj, rfl, HI⟩ := hrel
  by_cases hlt : j < q.length
  ·have e6 : (j : Int) < q.length := by omega
   have e7 : (0 : Int) <= j := by omega
   obtain ⟨p, hp⟩ := at_lt hlt
   obtain ⟨g, hA, c0, c1⟩ := HI.o.1.el hy hp
   dsimp only at hA
   subst hA
   go_upto_region 5 with fail
   obtain ⟨gi, hgi⟩ : ∃ gi, gi = wr.heap.size := ⟨_, rfl⟩
   obtain ⟨X, hX, HX, HX5⟩ : ∃ Z9, Z9 = wr.alloc (.cells #[.int .i64 p.1, .int .i64 p.2] 180) /\ Hid (LdI W gq gs h n nw S bs t x lt rg ad q j Z9) /\ Hid (Blk Z9 gi 180 [.int .i64 p.1, .int .i64 p.2]) := ⟨_, rfl, ⟨HI.o.1.on ((Below.refl _ _).alloc (Nat.le_refl _) _), HI.o.2.alloc _⟩, by rw [hgi]; exact Blk.new _ _ _⟩
   rw [<- hX, <- hgi]
   clear hX hgi c0 c1
   obtain ⟨k0, k1, k2, k3, k4, k5, k6, k7, k8, k9, s0, s1, s2, s3, g6, g7, _, _, g8⟩ := HX.o.1.c
   rw [ha] at k3
   have b0 := HX5.o.cell (i := 0) rfl
   by_cases hpa : p.1 = ad
   ·have d1 : ((p.1 : Int) == (ad : Int)) = true := by simp [hpa]
    rw [hpa] at b0 ⊢
    have d2 : ((ad : Int) == (ad : Int)) = true := by simp
    go_quiet (fail)
    go_upto_region 6 with fail
    obtain ⟨Y, hY, HY, HY5⟩ : ∃ Z9, Z9 = X.drewN nq /\ Hid (LdI W gq gs h n nw S bs t x lt rg ad q j Z9) /\ Hid (Blk Z9 gi 180 [.int .i64 p.1, .int .i64 p.2]) := ⟨_, rfl, ⟨HX.o.1.on ((Below.refl _ _).drewN _), HX.o.2.trans (Fr.of ((Below.refl _ _).drewN _))⟩, HX5.o.below ((Below.refl _ _).drewN _) HX5.o.lt⟩
    rw [<- hY]
    clear hY k0 k1 k2 k3 k4 k5 k6 k7 k8 k9 s0 s1 s2 s3 g6 g7 g8 b0
    obtain ⟨f0, f1, _, _⟩ := HY.o.1.rc hr4
    have b1 := HY5.o.cell (i := 1) rfl
    go_region_with ((go_at_call 100; go_must (refine (regQ (HY.o.1.on (Below.refl _ _).drew) hr hr4).mono ?_; rintro e w3 ⟨rfl, m, rfl⟩)))
    all_goals (
     go_wp2_with fail
     go_roundg (gk - 1)
     case measure => omega
     case rel => exact ⟨j + 1, by omega, by go_num, HY.o.hit hp hpa ((Below.refl _ _).drewN _)⟩)
   ·have d1 : ((p.1 : Int) == (ad : Int)) = false := by simp; omega
    have d2 : decide ((p.1 : Int) = (ad : Int)) = false := by simp; omega
    go_quiet (fail)
    go_wp2_with fail
    go_roundg (gk - 1)
    case measure => omega
    case rel => exact ⟨j + 1, by omega, by go_num, HX.o.miss hp hpa ((Below.refl _ _).drewN _)⟩
  ·obtain rfl : j = q.length := by omega
   go_wp2_with fail
   go_ret
   have h9 := HI.o
   unfold LdI at h9
   rw [List.take_length] at h9
   exact ⟨rfl, h9.1.st, h9.2⟩
end
end Go.Proofs.YtgjdgapfnfhklaaGreat
namespace Go.Proofs.YtgjdgapfnfhklaaGreat
open Go.RowKit
def midS (S : LS) (t : Nat) (x : Ins) : LS := ⟨(effS S t x).ws, (effS S t x).rs, if x.kind = 7 /\ S.r t x.reg.toNat = x.value then S.ps.set t (S.p t + x.count.toNat) else S.ps⟩
theorem midS_p {S : LS} {t : Nat} {x : Ins} (ht : t < S.ps.length) : (midS S t x).p t = S.p t + skipS S t x := by
 unfold midS skipS LS.p
 split
 ·simp [List.getD_eq_getElem?_getD, ht]
 ·simp
theorem mid_next {S : LS} {t c : Nat} {x : Ins} (ht : t < S.ps.length) : nextS S t c x = ⟨(midS S t x).ws, (midS S t x).rs, (midS S t x).ps.set t (min ((midS S t x).p t + 1) c)⟩ := by
 rw [midS_p ht]
 unfold nextS midS
 dsimp only
 split
 ·rw [List.set_set]
 ·rfl
theorem reg_of {x : Ins} (h : regB x = true) : ∃ rg : Nat, x.reg = rg /\ rg < 4 := by
 unfold regB at h
 simp at h
 exact ⟨x.reg.toNat, by omega, by omega⟩
theorem adr_of {x : Ins} {nw : Nat} (h : adrB nw x = true) : ∃ ad : Nat, x.addr = ad /\ ad < nw := by
 unfold adrB at h
 simp at h
 exact ⟨x.addr.toNat, by omega, by omega⟩
def MidR (late : Bool) (S : LS) (bs : List Bf) (t : Nat) (x : Ins) (b : Bool) (S' : LS) (bs' : List Bf) : Prop :=
 (∀ c, doB late ⟨S, bs.map (·.q)⟩ t c x = if b = true then some ⟨⟨S'.ws, S'.rs, S'.ps.set t (min (S'.p t + 1) c)⟩, bs'.map (·.q)⟩ else none) /\ (b = false -> S' = S /\ bs' = bs) /\ (late = false -> bs' = bs)
def RulR (late : Bool) (h : SH) (n nw : Nat) (S : LS) (bs : List Bf) (t : Nat) (x : Ins) (W : World) (e : Ending) (W' : World) : Prop :=
 ∃ b S' bs', e = .returned (.bool b) /\ StQ W' h n nw S' bs' /\ NewB W bs bs' /\ Fr (SQ h bs) W W' /\ MidR late S bs t x b S' bs'
theorem b_map {bs : List Bf} {t : Nat} {y : Bf} (hy : bs[t]? = some y) (S : LS) : BS.b ⟨S, bs.map (·.q)⟩ t = y.q := by
 show (bs.map (·.q)).getD t [] = _
 rw [List.getD_eq_getElem?_getD, List.getElem?_map, hy]
 rfl
theorem adv_mid {S S' : LS} {t c : Nat} {x : Ins} (h7 : x.kind ≠ 7) (hp : S'.ps = S.ps) : advS S t c x = S'.ps.set t (min (S'.p t + 1) c) := by
 unfold advS skipS LS.p
 rw [if_neg (fun h => h7 h.1), hp]
section
variable {W : World} {gq gs : Nat} {h : SH} {n nw : Nat} {S : LS} {bs : List Bf} {t : Nat} {x : Ins} {lt : Bool} {y : Bf}
theorem WkQR.rul {S' : LS} {e : Ending} {W' : World} (h1 : WkQR h n nw S' bs bs true W e W') (hm : ∀ c, doB lt ⟨S, bs.map (·.q)⟩ t c x = some ⟨⟨S'.ws, S'.rs, S'.ps.set t (min (S'.p t + 1) c)⟩, bs.map (·.q)⟩) : RulR lt h n nw S bs t x W e W' :=
 ⟨true, S', bs, h1.1, h1.2.1, NewB.refl _ _, h1.2.2, fun c => (hm c).trans (if_pos rfl).symm, fun h9 => (by cases h9), fun _ => rfl⟩
theorem WkQR.mid {e : Ending} {W' : World} (h1 : WkQR h n nw (midS S t x) bs bs true W e W') (ht : t < S.ps.length) (hd : ∀ c, doB lt ⟨S, bs.map (·.q)⟩ t c x = some ⟨nextS S t c x, bs.map (·.q)⟩) : RulR lt h n nw S bs t x W e W' :=
 h1.rul fun c => (hd c).trans (by rw [mid_next ht])
theorem WkQR.eq {S1 S2 : LS} {b : Bool} {bs' : List Bf} {e : Ending} {W' : World} (h1 : WkQR h n nw S1 bs bs' b W e W') (he : S1 = S2) : WkQR h n nw S2 bs bs' b W e W' := he ▸ h1
theorem doB_plain (h1 : x.kind ≠ 1) (h2 : ¬ (x.kind = 2 /\ lt = true)) (h3 : (x.kind = 3 ∨ x.kind = 4) -> y.q = []) (hy : bs[t]? = some y) (c : Nat) : doB lt ⟨S, bs.map (·.q)⟩ t c x = some ⟨nextS S t c x, bs.map (·.q)⟩ := by
 unfold doB
 rw [if_neg h1, if_neg h2, if_neg]
 rintro ⟨h4, h5⟩
 rw [b_map hy] at h5
 exact h5 (h3 h4)
theorem doB_wait (h34 : x.kind = 3 ∨ x.kind = 4) (hq : y.q ≠ []) (hy : bs[t]? = some y) (c : Nat) : doB lt ⟨S, bs.map (·.q)⟩ t c x = none := by
 unfold doB
 rw [if_neg (by omega), if_neg (by omega), if_pos ⟨h34, by rw [b_map hy]; exact hq⟩]
theorem WkQR.wait {e : Ending} {W' : World} (h1 : WkQR h n nw S bs bs false W e W') (h34 : x.kind = 3 ∨ x.kind = 4) (hq : y.q ≠ []) (hy : bs[t]? = some y) : RulR lt h n nw S bs t x W e W' :=
 ⟨false, S, bs, h1.1, h1.2.1, NewB.refl _ _, h1.2.2, fun c => (doB_wait h34 hq hy c).trans (by simp), fun _ => ⟨rfl, rfl⟩, fun _ => rfl⟩
theorem ruleQ_load (H : WkQ W gq gs h n nw S bs t x lt) (hy : bs[t]? = some y) (hk : x.kind = 1) (hok : okIns nw x = true) : Calls Tryz.prog 79 #[.pointer (some ⟨gq, 0, none⟩)] W (RulR lt h n nw S bs t x W) := by
 unfold okIns at hok
 rw [if_pos (by omega), Bool.and_eq_true] at hok
 obtain ⟨rg, hr, hr4⟩ := reg_of hok.1
 obtain ⟨ad, ha, ha4⟩ := adr_of hok.2
 refine (loadQ H hy hr hr4 ha ha4).mono fun e W' h9 => h9.rul fun c => ?_
 unfold doB
 rw [if_pos hk, adv_mid (S := S) (S' := ⟨S.ws, S.rs.set (t * 4 + rg) ((lastQ y.q ad).getD (S.w ad)), S.ps⟩) (by omega) rfl]
 unfold BS.see
 rw [b_map hy, hr, ha]
 rfl
theorem val_of (hk : x.kind = 2) (hok : okIns nw x = true) : (0 <= x.src /\ x.src < 4 /\ S.r t x.src.toNat = valS S t x) ∨ (x.src < 0 /\ x.value = valS S t x) := by
 unfold okIns at hok
 rw [if_neg (by omega), if_pos hk, Bool.and_eq_true, Bool.and_eq_true, decide_eq_true_eq, decide_eq_true_eq] at hok
 unfold valS
 by_cases hs : 0 <= x.src
 ·exact Or.inl ⟨hs, hok.2.2, by rw [if_pos hs]⟩
 ·exact Or.inr ⟨by omega, by rw [if_neg hs]⟩
theorem ruleQ_store (H : WkQ W gq gs h n nw S bs t x lt) (hy : bs[t]? = some y) (hq : y.q.length <= 10) (hk : x.kind = 2) (hok : okIns nw x = true) : Calls Tryz.prog 80 #[.pointer (some ⟨gq, 0, none⟩)] W (RulR lt h n nw S bs t x W) := by
 have hv := val_of (S := S) (t := t) hk hok
 have htp : t < S.ps.length := by rw [H.st.plen]; exact H.t
 have hok2 := hok
 unfold okIns at hok
 rw [if_neg (by omega), if_pos hk, Bool.and_eq_true] at hok
 obtain ⟨ad, ha, ha4⟩ := adr_of hok.1
 cases lt with
 | false =>
  have hm : midS S t x = ⟨S.ws.set ad (valS S t x), S.rs, S.ps⟩ := by
   unfold midS effS valS
   simp [hk, ha]
  exact (storeQ H ha ha4 rfl hv).mono fun e W' h9 => (WkQR.eq h9 hm.symm).mid htp (doB_plain (by omega) (by simp) (by omega) hy)
 | true =>
  refine (storeQ_late H hy hq ha ha4 hv).mono ?_
  rintro e W' ⟨rfl, hd, h1, h2, h3⟩
  refine ⟨true, S, _, rfl, h1, h2, h3, fun c => ?_, fun h9 => (by cases h9), fun h9 => by cases h9⟩
  unfold doB
  rw [if_neg (by omega), if_pos ⟨hk, rfl⟩, if_pos rfl, b_map hy, adv_mid (S := S) (S' := S) (by omega) rfl, List.map_set, ha]
  rfl
theorem isE {q : List Pd} (h : q = []) : q.isEmpty = true := by rw [h]; rfl
theorem ruleQ_swap (H : WkQ W gq gs h n nw S bs t x lt) (hy : bs[t]? = some y) (hk : x.kind = 3) (hok : okIns nw x = true) : Calls Tryz.prog 81 #[.pointer (some ⟨gq, 0, none⟩)] W (RulR lt h n nw S bs t x W) := by
 have htp : t < S.ps.length := by rw [H.st.plen]; exact H.t
 unfold okIns at hok
 rw [if_pos (by omega), Bool.and_eq_true] at hok
 obtain ⟨rg, hr, hr4⟩ := reg_of hok.1
 obtain ⟨ad, ha, ha4⟩ := adr_of hok.2
 by_cases hq : y.q = []
 ·by_cases he : S.w ad = x.old
  ·refine (swapQ_yes H hy (isE hq) hr hr4 ha ha4 he).mono fun e W' h9 => (WkQR.eq h9 ?_).mid htp (doB_plain (by omega) (by omega) (fun _ => hq) hy)
   unfold midS effS
   simp [hk, hr, ha, he]
  ·refine (swapQ_no H hy (isE hq) hr hr4 ha ha4 he).mono fun e W' h9 => (WkQR.eq h9 ?_).mid htp (doB_plain (by omega) (by omega) (fun _ => hq) hy)
   unfold midS effS
   simp [hk, hr, ha, he]
 ·exact (swapQ_wait H hy (by cases h9 : y.q with | nil => exact absurd h9 hq | cons p r => rfl)).mono fun e W' h9 => h9.wait (Or.inl hk) hq hy
theorem ruleQ_fence (H : WkQ W gq gs h n nw S bs t x lt) (hy : bs[t]? = some y) (hk : x.kind = 4) : Calls Tryz.prog 82 #[.pointer (some ⟨gq, 0, none⟩)] W (RulR lt h n nw S bs t x W) := by
 have htp : t < S.ps.length := by rw [H.st.plen]; exact H.t
 by_cases hq : y.q = []
 ·refine (drainedQ H hy (isE hq)).mono ?_
  rintro e W' ⟨rfl, m, rfl⟩
  have h9 : WkQR h n nw S bs bs true W (.returned (.bool true)) (W.drewN m) := ⟨rfl, (H.on ((Below.refl _ _).drewN _)).st, Fr.of ((Below.refl _ _).drewN _)⟩
  refine (WkQR.eq h9 ?_).mid htp (doB_plain (by omega) (by omega) (fun _ => hq) hy)
  unfold midS effS
  simp [hk]
 ·refine (drainedQ H hy (b := false) (by cases h9 : y.q with | nil => exact absurd h9 hq | cons p r => rfl)).mono ?_
  rintro e W' ⟨rfl, m, rfl⟩
  have h9 : WkQR h n nw S bs bs false W (.returned (.bool false)) (W.drewN m) := ⟨rfl, (H.on ((Below.refl _ _).drewN _)).st, Fr.of ((Below.refl _ _).drewN _)⟩
  exact h9.wait (Or.inr hk) hq hy
theorem ruleQ_set (H : WkQ W gq gs h n nw S bs t x lt) (hy : bs[t]? = some y) (hk : x.kind = 5) (hok : okIns nw x = true) : Calls Tryz.prog 83 #[.pointer (some ⟨gq, 0, none⟩)] W (RulR lt h n nw S bs t x W) := by
 have htp : t < S.ps.length := by rw [H.st.plen]; exact H.t
 unfold okIns at hok
 rw [if_neg (by omega), if_neg (by omega), if_neg (by omega), if_pos (by omega)] at hok
 obtain ⟨rg, hr, hr4⟩ := reg_of hok
 refine (setQ H hr hr4).mono fun e W' h9 => (WkQR.eq h9 ?_).mid htp (doB_plain (by omega) (by omega) (by omega) hy)
 unfold midS effS
 simp [hk, hr]
theorem ruleQ_add (H : WkQ W gq gs h n nw S bs t x lt) (hy : bs[t]? = some y) (hk : x.kind = 6) (hok : okIns nw x = true) : Calls Tryz.prog 84 #[.pointer (some ⟨gq, 0, none⟩)] W (RulR lt h n nw S bs t x W) := by
 have htp : t < S.ps.length := by rw [H.st.plen]; exact H.t
 unfold okIns at hok
 rw [if_neg (by omega), if_neg (by omega), if_neg (by omega), if_pos (by omega)] at hok
 obtain ⟨rg, hr, hr4⟩ := reg_of hok
 refine (addQ H hr hr4).mono fun e W' h9 => (WkQR.eq h9 ?_).mid htp (doB_plain (by omega) (by omega) (by omega) hy)
 unfold midS effS
 simp [hk, hr]
theorem ruleQ_skip (H : WkQ W gq gs h n nw S bs t x lt) (hy : bs[t]? = some y) (hk : x.kind = 7) (hok : okIns nw x = true) (hp : S.p t <= 10) : Calls Tryz.prog 85 #[.pointer (some ⟨gq, 0, none⟩)] W (RulR lt h n nw S bs t x W) := by
 have htp : t < S.ps.length := by rw [H.st.plen]; exact H.t
 unfold okIns at hok
 rw [if_neg (by omega), if_neg (by omega), if_neg (by omega), if_neg (by omega), if_pos hk, Bool.and_eq_true, Bool.and_eq_true, decide_eq_true_eq, decide_eq_true_eq] at hok
 obtain ⟨rg, hr, hr4⟩ := reg_of hok.1
 obtain ⟨cn, hc⟩ : ∃ cn : Nat, x.count = cn := ⟨x.count.toNat, by omega⟩
 by_cases he : S.r t rg = x.value
 ·refine (skipQ_yes H hr hr4 he hc (by omega) hp).mono fun e W' h9 => (WkQR.eq h9 ?_).mid htp (doB_plain (by omega) (by omega) (by omega) hy)
  unfold midS effS
  simp [hk, hr, he, hc]
 ·refine (skipQ_no H hr hr4 he).mono fun e W' h9 => (WkQR.eq h9 ?_).mid htp (doB_plain (by omega) (by omega) (by omega) hy)
  unfold midS effS
  simp [hk, hr, he]
end
end Go.Proofs.YtgjdgapfnfhklaaGreat
