/-
tso.worker: its register, and the rules of the seven kinds, 
-/
import Derived.Test.YtgjdgapfnfhklaaGreatQcp
import Derived.BigRegion
set_option linter.unusedSimpArgs false
set_option linter.unusedVariables false
set_option maxRecDepth 100000
set_option maxHeartbeats 4000000
namespace Go.Proofs.YtgjdgapfnfhklaaGreat
open Go.RowKit
structure WkQ (W : World) (gq gs : Nat) (h : SH) (n nw : Nat) (S : LS) (bs : List Bf) (t : Nat) (x : Ins) (lt : Bool) : Prop where
 k : Blk W gq 193 [.pointer (some ⟨gs, 0, none⟩), .int .i64 x.kind, .int .i64 x.reg, .int .i64 x.addr, .int .i64 x.value, .int .i64 x.src, .int .i64 x.old, .int .i64 x.count, .int .i64 t, .bool lt]
 s : Blk W gs 77 (stL h n nw)
 st : StQ W h n nw S bs
 t : t < n
 n4 : n <= 4
 w6 : nw <= 6
def WkQR (h : SH) (n nw : Nat) (S' : LS) (bs bs' : List Bf) (b : Bool) (W : World) (e : Ending) (W' : World) : Prop := e = .returned (.bool b) /\ StQ W' h n nw S' bs' /\ Fr (SQ h bs) W W'
section
variable {W W' : World} {gq gs : Nat} {h : SH} {n nw : Nat} {S : LS} {bs : List Bf} {t : Nat} {x : Ins} {lt : Bool} {y : Bf} {rg ad sr cn : Nat}
theorem WkQ.on (H : WkQ W gq gs h n nw S bs t x lt) (hb : Below W.heap.size W W') : WkQ W' gq gs h n nw S bs t x lt := ⟨H.k.below hb H.k.lt, H.s.below hb H.s.lt, H.st.on hb, H.t, H.n4, H.w6⟩
theorem WkQ.no (H : WkQ W gq gs h n nw S bs t x lt) : (gq ≠ h.gw /\ gq ≠ h.gr /\ gq ≠ h.gp /\ gq ≠ h.gb) /\ (gs ≠ h.gw /\ gs ≠ h.gr /\ gs ≠ h.gp /\ gs ≠ h.gb) :=
 ⟨⟨H.st.w.ne H.k (by decide), H.st.r.ne H.k (by decide), H.st.p.ne H.k (by decide), H.st.b.ne H.k (by decide)⟩, ⟨H.st.w.ne H.s (by decide), H.st.r.ne H.s (by decide), H.st.p.ne H.s (by decide), H.st.b.ne H.s (by decide)⟩⟩
theorem WkQ.setR (H : WkQ W gq gs h n nw S bs t x lt) (j : Nat) (z : Int) : WkQ (W.setCell ⟨h.gr, j, none⟩ (.int .i64 z)) gq gs h n nw ⟨S.ws, S.rs.set j z, S.ps⟩ bs t x lt :=
 ⟨H.k.far H.no.1.2.1 _, H.s.far H.no.2.2.1 _, H.st.setR j z, H.t, H.n4, H.w6⟩
theorem WkQ.setW (H : WkQ W gq gs h n nw S bs t x lt) (j : Nat) (z : Int) : WkQ (W.setCell ⟨h.gw, j, none⟩ (.int .i64 z)) gq gs h n nw ⟨S.ws.set j z, S.rs, S.ps⟩ bs t x lt :=
 ⟨H.k.far H.no.1.1 _, H.s.far H.no.2.1 _, H.st.setW j z, H.t, H.n4, H.w6⟩
theorem WkQ.c (H : WkQ W gq gs h n nw S bs t x lt) : W.cell? ⟨gq, 0, none⟩ = some (.pointer (some ⟨gs, 0, none⟩)) /\ W.cell? ⟨gq, 1, none⟩ = some (.int .i64 x.kind) /\ W.cell? ⟨gq, 2, none⟩ = some (.int .i64 x.reg) /\ W.cell? ⟨gq, 3, none⟩ = some (.int .i64 x.addr) /\ W.cell? ⟨gq, 4, none⟩ = some (.int .i64 x.value) /\ W.cell? ⟨gq, 5, none⟩ = some (.int .i64 x.src) /\ W.cell? ⟨gq, 6, none⟩ = some (.int .i64 x.old) /\ W.cell? ⟨gq, 7, none⟩ = some (.int .i64 x.count) /\ W.cell? ⟨gq, 8, none⟩ = some (.int .i64 t) /\ W.cell? ⟨gq, 9, none⟩ = some (.bool lt)
  /\ W.cell? ⟨gs, 0, none⟩ = some (.slice (some ⟨h.gw, 0, none⟩) nw h.kw) /\ W.cell? ⟨gs, 1, none⟩ = some (.slice (some ⟨h.gr, 0, none⟩) n h.kr) /\ W.cell? ⟨gs, 2, none⟩ = some (.slice (some ⟨h.gp, 0, none⟩) n h.kp) /\ W.cell? ⟨gs, 3, none⟩ = some (.slice (some ⟨h.gb, 0, none⟩) n h.kb)
  /\ W.cell? ⟨h.gp, t, none⟩ = some (.int .i64 (S.p t)) /\ W.frozen? ⟨h.gp, t, none⟩ = false /\ (0 : Int) <= t /\ (t : Int) < n /\ W.frozen? ⟨h.gb, t, none⟩ = false :=
 ⟨H.k.cell rfl, H.k.cell rfl, H.k.cell rfl, H.k.cell rfl, H.k.cell rfl, H.k.cell rfl, H.k.cell rfl, H.k.cell rfl, H.k.cell rfl, H.k.cell rfl, H.s.cell rfl, H.s.cell rfl, H.s.cell rfl, H.s.cell rfl, H.st.plc H.t, H.st.p.frozen _, by omega, by have := H.t; omega, H.st.b.frozen _⟩
theorem WkQ.rc (H : WkQ W gq gs h n nw S bs t x lt) (hr4 : rg < 4) : W.frozen? ⟨h.gr, t * 4 + rg, none⟩ = false /\ W.cell? ⟨h.gr, t * 4 + rg, none⟩ = some (.int .i64 (S.r t rg)) /\ (0 : Int) <= rg /\ (rg : Int) < 4 := ⟨H.st.r.frozen _, H.st.regc H.t hr4, by omega, by omega⟩
theorem WkQ.wc (H : WkQ W gq gs h n nw S bs t x lt) (ha : ad < nw) : W.frozen? ⟨h.gw, ad, none⟩ = false /\ W.cell? ⟨h.gw, ad, none⟩ = some (.int .i64 (S.w ad)) /\ (0 : Int) <= ad /\ (ad : Int) < nw := ⟨H.st.w.frozen _, H.st.wordc ha, by omega, by omega⟩
theorem WkQ.bc (H : WkQ W gq gs h n nw S bs t x lt) (hy : bs[t]? = some y) : W.cell? ⟨h.gb, t, none⟩ = some (.slice y.hd.1 y.hd.2.1 y.hd.2.2) := H.st.bufc hy
theorem regQ (H : WkQ W gq gs h n nw S bs t x lt) (hr : x.reg = (rg : Int)) (hr4 : rg < 4) :
  Calls Tryz.prog 100 #[.pointer (some ⟨gq, 0, none⟩)] W (fun e w' => e = .returned (.pointer (some ⟨h.gr, t * 4 + rg, none⟩)) /\ ∃ m, w' = W.drewN m) := by
 obtain ⟨k0, k1, k2, k3, k4, k5, k6, k7, k8, k9, s0, s1, s2, s3, g6, g7, e0, e1, g8⟩ := H.c
 rw [hr] at k2
 have e2 : (0 : Int) <= rg := by omega
 have e3 : (rg : Int) < 4 := by omega
 clear H
 go_enter Tryz.func100, Tryz.ntmps100
 go_upto_region 1 with fail
 go_quiet (fail)
 go_wp2_with fail
 go_ret
 exact ⟨rfl, _, rfl⟩
theorem drainedQ (H : WkQ W gq gs h n nw S bs t x lt) (hy : bs[t]? = some y) {b : Bool} (hb : y.q.isEmpty = b) :
  Calls Tryz.prog 82 #[.pointer (some ⟨gq, 0, none⟩)] W (fun e w' => e = .returned (.bool b) /\ ∃ m, w' = W.drewN m) := by
 obtain ⟨k0, k1, k2, k3, k4, k5, k6, k7, k8, k9, s0, s1, s2, s3, g6, g7, e0, e1, g8⟩ := H.c
 have g5 := H.bc hy
 have hyl := (H.st.own y (List.mem_of_getElem? hy)).1
 rw [hyl] at g5
 clear hyl
 have d1 : ((y.q.length : Int) == 0) = b := by
  rw [<- hb]
  cases y.q <;> simp
  omega
 have d2 : decide ((y.q.length : Int) = 0) = b := by rw [<- d1]; rfl
 clear H
 go_enter Tryz.func82, Tryz.ntmps82
 go_upto_region 1 with fail
 go_quiet (fail)
 go_wp2_with fail
 go_ret
 exact ⟨by first | rw [d1] | rw [d2] | simp [d1, d2], _, rfl⟩
theorem setQ (H : WkQ W gq gs h n nw S bs t x lt) (hr : x.reg = (rg : Int)) (hr4 : rg < 4) :
  Calls Tryz.prog 83 #[.pointer (some ⟨gq, 0, none⟩)] W (WkQR h n nw ⟨S.ws, S.rs.set (t * 4 + rg) x.value, S.ps⟩ bs bs true W) := by
 obtain ⟨k0, k1, k2, k3, k4, k5, k6, k7, k8, k9, s0, s1, s2, s3, g6, g7, e0, e1, g8⟩ := H.c
 obtain ⟨g0, g1, e2, e3⟩ := H.rc hr4
 have HS : Hid (∀ V, Below W.heap.size W V -> WkQ V gq gs h n nw S bs t x lt) := fun V hV => H.on hV
 clear H
 go_enter Tryz.func83, Tryz.ntmps83
 go_upto_region 1 with fail
 go_region_with ((go_at_call 100; go_must (refine (regQ (HS.o _ (Below.refl _ _).drew) hr hr4).mono ?_; rintro e w3 ⟨rfl, m, rfl⟩)))
 all_goals (go_wp2_with fail; go_ret; exact ⟨rfl, (HS.o _ ((Below.refl _ _).drewN _)).st.setR _ _, (Fr.of ((Below.refl _ _).drewN _)).setCell (Or.inr (Or.inl rfl)) _⟩)
theorem addQ (H : WkQ W gq gs h n nw S bs t x lt) (hr : x.reg = (rg : Int)) (hr4 : rg < 4) :
  Calls Tryz.prog 84 #[.pointer (some ⟨gq, 0, none⟩)] W (WkQR h n nw ⟨S.ws, S.rs.set (t * 4 + rg) (IntKind.i64.wrap (S.r t rg + x.value)), S.ps⟩ bs bs true W) := by
 obtain ⟨k0, k1, k2, k3, k4, k5, k6, k7, k8, k9, s0, s1, s2, s3, g6, g7, e0, e1, g8⟩ := H.c
 obtain ⟨g0, g1, e2, e3⟩ := H.rc hr4
 have HS : Hid (∀ V, Below W.heap.size W V -> WkQ V gq gs h n nw S bs t x lt) := fun V hV => H.on hV
 clear H
 go_enter Tryz.func84, Tryz.ntmps84
 go_upto_region 1 with fail
 go_region_with ((go_at_call 100; go_must (refine (regQ (HS.o _ (Below.refl _ _).drew) hr hr4).mono ?_; rintro e w3 ⟨rfl, m, rfl⟩)))
 all_goals (go_wp2_with fail; go_ret; exact ⟨rfl, (HS.o _ ((Below.refl _ _).drewN _)).st.setR _ _, (Fr.of ((Below.refl _ _).drewN _)).setCell (Or.inr (Or.inl rfl)) _⟩)
theorem skipQ_no (H : WkQ W gq gs h n nw S bs t x lt) (hr : x.reg = (rg : Int)) (hr4 : rg < 4) (hne : ¬ S.r t rg = x.value) :
  Calls Tryz.prog 85 #[.pointer (some ⟨gq, 0, none⟩)] W (WkQR h n nw S bs bs true W) := by
 obtain ⟨k0, k1, k2, k3, k4, k5, k6, k7, k8, k9, s0, s1, s2, s3, g6, g7, e0, e1, g8⟩ := H.c
 obtain ⟨g0, g1, e2, e3⟩ := H.rc hr4
 have HS : Hid (∀ V, Below W.heap.size W V -> WkQ V gq gs h n nw S bs t x lt) := fun V hV => H.on hV
 clear H
 go_enter Tryz.func85, Tryz.ntmps85
 have d1 : (S.r t rg == x.value) = false := by simpa using hne
 have d2 : decide (S.r t rg = x.value) = false := by simpa using hne
 go_upto_region 1 with fail
 go_quiet ((go_at_call 100; exact Calls.quiet_of (regQ (HS.o _ ((Below.refl _ _).drewN _)) hr hr4)))
 go_wp2_with fail
 go_ret
 exact ⟨rfl, (HS.o _ ((Below.refl _ _).drewN _)).st, Fr.of ((Below.refl _ _).drewN _)⟩
theorem skipQ_yes (H : WkQ W gq gs h n nw S bs t x lt) (hr : x.reg = (rg : Int)) (hr4 : rg < 4) (heq : S.r t rg = x.value) (hc : x.count = (cn : Int)) (hc4 : cn <= 10) (hp : S.p t <= 10) :
  Calls Tryz.prog 85 #[.pointer (some ⟨gq, 0, none⟩)] W (WkQR h n nw ⟨S.ws, S.rs, S.ps.set t (S.p t + cn)⟩ bs bs true W) := by
 obtain ⟨k0, k1, k2, k3, k4, k5, k6, k7, k8, k9, s0, s1, s2, s3, g6, g7, e0, e1, g8⟩ := H.c
 obtain ⟨g0, g1, e2, e3⟩ := H.rc hr4
 have HS : Hid (∀ V, Below W.heap.size W V -> WkQ V gq gs h n nw S bs t x lt) := fun V hV => H.on hV
 clear H
 go_enter Tryz.func85, Tryz.ntmps85
 have d1 : (S.r t rg == x.value) = true := by simpa using heq
 have d2 : decide (S.r t rg = x.value) = true := by simpa using heq
 go_upto_region 1 with fail
 go_quiet ((go_at_call 100; exact Calls.quiet_of (regQ (HS.o _ ((Below.refl _ _).drewN _)) hr hr4)))
 go_upto_region 2 with fail
 obtain ⟨V, hV, HV, hBV⟩ : ∃ V, V = W.drewN nq /\ WkQ V gq gs h n nw S bs t x lt /\ Below W.heap.size W V := ⟨_, rfl, HS.o _ ((Below.refl _ _).drewN _), (Below.refl _ _).drewN _⟩
 rw [<- hV]
 clear hV
 obtain ⟨l0, l1, l2, l3, l4, l5, l6, l7, l8, l9, q0, q1, q2, q3, v6, v7, _, _, v8⟩ := HV.c
 rw [hc] at l7
 have x1 : IntKind.i64.wrap ((S.p t : Int) + (cn : Int)) = ((S.p t + cn : Nat) : Int) := (IntWalk.i64_in _ (by omega)).trans (by simp)
 go_still_tail 20, (by kernel_rfl)
 go_wp2_with fail
 go_ret
 exact ⟨rfl, (HS.o _ (hBV.drew)).st.setP _ _, (Fr.of (hBV.drew)).setCell (Or.inr (Or.inr (Or.inl rfl))) _⟩
theorem storeQ (H : WkQ W gq gs h n nw S bs t x lt) (ha : x.addr = (ad : Int)) (ha4 : ad < nw) (hl : lt = false) {v : Int} (hv : (0 <= x.src /\ x.src < 4 /\ S.r t x.src.toNat = v) ∨ (x.src < 0 /\ x.value = v)) :
  Calls Tryz.prog 80 #[.pointer (some ⟨gq, 0, none⟩)] W (WkQR h n nw ⟨S.ws.set ad v, S.rs, S.ps⟩ bs bs true W) := by
 subst hl
 obtain ⟨k0, k1, k2, k3, k4, k5, k6, k7, k8, k9, s0, s1, s2, s3, g6, g7, e0, e1, g8⟩ := H.c
 rw [ha] at k3
 obtain ⟨g2, g3, e4, e5⟩ := H.wc ha4
 have HS : Hid (∀ V, Below W.heap.size W V -> WkQ V gq gs h n nw S bs t x false) := fun V hV => H.on hV
 rcases hv with ⟨hs0, hs4, hv⟩ | ⟨hsn, hv⟩
 ·obtain ⟨sr, hs⟩ : ∃ sr : Nat, x.src = sr := ⟨x.src.toNat, by omega⟩
  rw [hs] at k5 hv
  rw [Int.toNat_natCast] at hv
  have hs4 : sr < 4 := by omega
  obtain ⟨_, g4, e6, e7⟩ := H.rc hs4
  rw [hv] at g4
  clear H
  go_enter Tryz.func80, Tryz.ntmps80
  have d1 : decide ((0 : Int) <= sr) = true := by simp
  go_upto_region 3 with fail
  go_quiet (fail)
  go_upto_region 6 with fail
  obtain ⟨V, hV, HV, hBV⟩ : ∃ V, V = W.drewN nq /\ WkQ V gq gs h n nw S bs t x false /\ Below W.heap.size W V := ⟨_, rfl, HS.o _ ((Below.refl _ _).drewN _), (Below.refl _ _).drewN _⟩
  rw [<- hV]
  clear hV
  obtain ⟨l0, l1, l2, l3, l4, l5, l6, l7, l8, l9, q0, q1, q2, q3, v6, v7, _, _, v8⟩ := HV.c
  rw [ha] at l3
  obtain ⟨v2, v3, _, _⟩ := HV.wc ha4
  go_still_tail 14, (by kernel_rfl)
  go_wp2_with fail
  go_ret
  exact ⟨rfl, (HS.o _ (hBV.drew)).st.setW _ _, (Fr.of (hBV.drew)).setCell (Or.inl rfl) _⟩
 ·rw [hv] at k4
  clear H
  go_enter Tryz.func80, Tryz.ntmps80
  have d1 : decide ((0 : Int) <= x.src) = false := by simp; omega
  have d2 : ¬ (0 : Int) <= x.src := by omega
  go_upto_region 6 with fail
  go_still_tail 14, (by kernel_rfl)
  go_wp2_with fail
  go_ret
  exact ⟨rfl, (HS.o _ (Below.refl _ _).drew).st.setW _ _, (Fr.of (Below.refl _ _).drew).setCell (Or.inl rfl) _⟩
theorem swapQ_wait (H : WkQ W gq gs h n nw S bs t x lt) (hy : bs[t]? = some y) (hq : y.q.isEmpty = false) :
  Calls Tryz.prog 81 #[.pointer (some ⟨gq, 0, none⟩)] W (WkQR h n nw S bs bs false W) := by
 have HS : Hid (∀ V, Below W.heap.size W V -> WkQ V gq gs h n nw S bs t x lt) := fun V hV => H.on hV
 have HD := Lh (drainedQ H hy hq)
 clear H
 go_enter Tryz.func81, Tryz.ntmps81
 go_wp2_with fail
 refine HD.o.mono ?_
 rintro e w3 ⟨rfl, m, rfl⟩
 go_wp2_with fail
 go_ret
 exact ⟨rfl, (HS.o _ ((Below.refl _ _).drewN _)).st, Fr.of ((Below.refl _ _).drewN _)⟩
theorem swapQ_no (H : WkQ W gq gs h n nw S bs t x lt) (hy : bs[t]? = some y) (hq : y.q.isEmpty = true) (hr : x.reg = (rg : Int)) (hr4 : rg < 4) (ha : x.addr = (ad : Int)) (ha4 : ad < nw) (hne : ¬ S.w ad = x.old) :
  Calls Tryz.prog 81 #[.pointer (some ⟨gq, 0, none⟩)] W (WkQR h n nw ⟨S.ws, S.rs.set (t * 4 + rg) 0, S.ps⟩ bs bs true W) := by
 obtain ⟨k0, k1, k2, k3, k4, k5, k6, k7, k8, k9, s0, s1, s2, s3, g6, g7, e0, e1, g8⟩ := H.c
 obtain ⟨g0, g1, e2, e3⟩ := H.rc hr4
 have HS : Hid (∀ V, Below W.heap.size W V -> WkQ V gq gs h n nw S bs t x lt) := fun V hV => H.on hV
 have HD := Lh (drainedQ H hy hq)
 clear H
 go_enter Tryz.func81, Tryz.ntmps81
 go_upto_region 3 with (go_at_call 82; go_must (refine (HD.o).mono ?_; rintro e w3 ⟨rfl, m0, rfl⟩))
 go_upto_region 4 with (go_at_call 100; go_must (refine (regQ (HS.o _ ((Below.refl _ _).drewN _)) hr hr4).mono ?_; rintro e w3 ⟨rfl, m, rfl⟩))
 obtain ⟨V, hV, HV, FV⟩ : ∃ Z9, Z9 = (W.drewN (m0 + m)).setCell ⟨h.gr, t * 4 + rg, none⟩ (.int .i64 0) /\ WkQ Z9 gq gs h n nw ⟨S.ws, S.rs.set (t * 4 + rg) 0, S.ps⟩ bs t x lt /\ Fr (SQ h bs) W Z9 := ⟨_, rfl, (HS.o _ ((Below.refl _ _).drewN _)).setR _ _, (Fr.of ((Below.refl _ _).drewN _)).setCell (Or.inr (Or.inl rfl)) _⟩
 rw [<- hV]
 clear hV
 clear k0 k1 k2 k3 k4 k5 k6 k7 k8 k9 s0 s1 s2 s3 g0 g1 g6 g7 g8
 obtain ⟨l0, l1, l2, l3, l4, l5, l6, l7, l8, l9, q0, q1, q2, q3, v6, v7, _, _, v8⟩ := HV.c
 rw [ha] at l3
 obtain ⟨v2, v3, e4, e5⟩ : V.frozen? ⟨h.gw, ad, none⟩ = false /\ V.cell? ⟨h.gw, ad, none⟩ = some (.int .i64 (S.w ad)) /\ (0 : Int) <= ad /\ (ad : Int) < nw := HV.wc ha4
 have d1 : (S.w ad == x.old) = false := by simpa using hne
 have d2 : decide (S.w ad = x.old) = false := by simpa using hne
 go_quiet (fail)
 go_wp2_with fail
 go_ret
 exact ⟨rfl, (HV.on ((Below.refl _ _).drewN _)).st, FV.trans (Fr.of ((Below.refl _ _).drewN _))⟩
theorem swapQ_yes (H : WkQ W gq gs h n nw S bs t x lt) (hy : bs[t]? = some y) (hq : y.q.isEmpty = true) (hr : x.reg = (rg : Int)) (hr4 : rg < 4) (ha : x.addr = (ad : Int)) (ha4 : ad < nw) (heq : S.w ad = x.old) :
  Calls Tryz.prog 81 #[.pointer (some ⟨gq, 0, none⟩)] W (WkQR h n nw ⟨S.ws.set ad x.value, S.rs.set (t * 4 + rg) 1, S.ps⟩ bs bs true W) := by
 obtain ⟨k0, k1, k2, k3, k4, k5, k6, k7, k8, k9, s0, s1, s2, s3, g6, g7, e0, e1, g8⟩ := H.c
 obtain ⟨g0, g1, e2, e3⟩ := H.rc hr4
 have HS : Hid (∀ V, Below W.heap.size W V -> WkQ V gq gs h n nw S bs t x lt) := fun V hV => H.on hV
 have HD := Lh (drainedQ H hy hq)
 clear H
 go_enter Tryz.func81, Tryz.ntmps81
 go_upto_region 3 with (go_at_call 82; go_must (refine (HD.o).mono ?_; rintro e w3 ⟨rfl, m0, rfl⟩))
 go_upto_region 4 with (go_at_call 100; go_must (refine (regQ (HS.o _ ((Below.refl _ _).drewN _)) hr hr4).mono ?_; rintro e w3 ⟨rfl, m, rfl⟩))
 obtain ⟨V, hV, HV, FV⟩ : ∃ Z9, Z9 = (W.drewN (m0 + m)).setCell ⟨h.gr, t * 4 + rg, none⟩ (.int .i64 0) /\ WkQ Z9 gq gs h n nw ⟨S.ws, S.rs.set (t * 4 + rg) 0, S.ps⟩ bs t x lt /\ Fr (SQ h bs) W Z9 := ⟨_, rfl, (HS.o _ ((Below.refl _ _).drewN _)).setR _ _, (Fr.of ((Below.refl _ _).drewN _)).setCell (Or.inr (Or.inl rfl)) _⟩
 rw [<- hV]
 clear hV
 clear k0 k1 k2 k3 k4 k5 k6 k7 k8 k9 s0 s1 s2 s3 g0 g1 g6 g7 g8
 obtain ⟨l0, l1, l2, l3, l4, l5, l6, l7, l8, l9, q0, q1, q2, q3, v6, v7, _, _, v8⟩ := HV.c
 rw [ha] at l3
 obtain ⟨v2, v3, e4, e5⟩ : V.frozen? ⟨h.gw, ad, none⟩ = false /\ V.cell? ⟨h.gw, ad, none⟩ = some (.int .i64 (S.w ad)) /\ (0 : Int) <= ad /\ (ad : Int) < nw := HV.wc ha4
 have d1 : (S.w ad == x.old) = true := by simpa using heq
 have d2 : decide (S.w ad = x.old) = true := by simpa using heq
 go_quiet (fail)
 go_upto_region 5 with fail
 obtain ⟨X, hX, HX, FX⟩ : ∃ Z9, Z9 = V.drewN nq /\ WkQ Z9 gq gs h n nw ⟨S.ws, S.rs.set (t * 4 + rg) 0, S.ps⟩ bs t x lt /\ Fr (SQ h bs) W Z9 := ⟨_, rfl, HV.on ((Below.refl _ _).drewN _), FV.trans (Fr.of ((Below.refl _ _).drewN _))⟩
 rw [<- hX]
 clear hX
 clear l0 l1 l2 l3 l4 l5 l6 l7 l8 l9 q0 q1 q2 q3 v6 v7 v8 v2 v3
 obtain ⟨k0, k1, k2, k3, k4, k5, k6, k7, k8, k9, s0, s1, s2, s3, g6, g7, e0, e1, g8⟩ := HX.c
 rw [ha] at k3
 obtain ⟨x2, x3, _, _⟩ := HX.wc ha4
 go_still_tail 18, (by kernel_rfl)
 go_upto_region 6 with fail
 obtain ⟨Y, hY, HY, FY⟩ : ∃ Z9, Z9 = (X.setCell ⟨h.gw, ad, none⟩ (.int .i64 x.value)).drew /\ WkQ Z9 gq gs h n nw ⟨S.ws.set ad x.value, S.rs.set (t * 4 + rg) 0, S.ps⟩ bs t x lt /\ Fr (SQ h bs) W Z9 := ⟨_, rfl, (HX.setW _ _).on (Below.refl _ _).drew, (FX.setCell (Or.inl rfl) _).trans (Fr.of (Below.refl _ _).drew)⟩
 rw [<- hY]
 clear hY
 clear k0 k1 k2 k3 k4 k5 k6 k7 k8 k9 s0 s1 s2 s3 g6 g7 g8 x2 x3
 obtain ⟨f0, f1, _, _⟩ := HY.rc hr4
 go_wp2_with ((go_at_call 100; go_must (refine (regQ HY hr hr4).mono ?_; rintro e w3 ⟨rfl, m, rfl⟩)))
 go_ret
 have hE := ((HY.on ((Below.refl _ _).drewN m)).setR (t * 4 + rg) 1).st
 dsimp only at hE
 rw [List.set_set] at hE
 exact ⟨rfl, hE, (FY.trans (Fr.of ((Below.refl _ _).drewN m))).setCell (Or.inr (Or.inl rfl)) _⟩
end
end Go.Proofs.YtgjdgapfnfhklaaGreat
