/-
  tso.out and tso.turn, under sequential consistency with empty buffers.
-/
import Derived.Test.YtgbopmgeicokoaaCpd
import Derived.Test.YtgbopmgeicokoaaRul
namespace Go.Proofs.Ytgbopmgeicokoaa
open Go.RowKit

set_option maxRecDepth 100000 in
set_option maxHeartbeats 4000000 in
theorem out_any (gs : Nat) (h : SH) (n nw : Nat) (S : LS) (t : Nat) (b : Bool) (a : Int) (w : World) (hs : StAt w h n nw S) (hb : Blk w gs 113 (stL h n nw)) (ht : t < n) :
    Calls Try.prog 153 #[.int .i64 1, .pointer (some ⟨gs, 0, none⟩), .agg #[.int .i64 t, .bool b, .int .i64 a]] w (BoolR false w) := by
  have e0 : (0 : Int) ≤ t := by omega
  have e1 : (t : Int) < n := by omega
  have HW0 : Hid (Below w.heap.size w (w.alloc (.cells #[.int .i64 t, .bool b, .int .i64 a] 131))) := (Below.refl _ _).alloc (Nat.le_refl _) _
  have HT0 : Hid (Blk (w.alloc (.cells #[.int .i64 t, .bool b, .int .i64 a] 131)) w.heap.size 131 [.int .i64 t, .bool b, .int .i64 a]) := Blk.new _ _ _
  have HS := Lib.hid hs
  have HB := Lib.hid hb
  clear hs hb
  go_enter Try.func153, Try.ntmps153
  go_upto_region 1 with fail
  generalize w.alloc (.cells #[.int .i64 t, .bool b, .int .i64 a] 131) = w0 at HW0 HT0 ⊢
  have q0 : w0.cell? ⟨w.heap.size, 0, none⟩ = some (.int .i64 t) := HT0.out.cell rfl
  have s3 : w0.cell? ⟨gs, 3, none⟩ = some (.slice (some ⟨h.gb, 0, none⟩) n h.kb) := (HB.out.below HW0.out HB.out.lt).cell rfl
  have c0 : w0.cell? ⟨h.gb, t, none⟩ = some (.slice none 0 0) := (HS.out.on HW0.out).buf ht
  go_quiet (fail)
  obtain ⟨V, hV, HV⟩ : ∃ V, V = w0.drewN nq ∧ Below w.heap.size w V := ⟨_, rfl, HW0.out.trans ((Below.refl _ _).drewN _)⟩
  rw [← hV]
  clear hV q0 s3 c0
  go_wp2_with fail
  go_loopg [20] 0 (fun g9 i wr => i = .int .i64 0 ∧ wr = V)
  case atStart => exact ⟨rfl, rfl⟩
  case round =>
    obtain ⟨rfl, rfl⟩ := hrel
    have d1 : decide ((0 : Int) < 0) = false := rfl
    go_wp2_with fail
    go_ret
    exact ⟨rfl, HV⟩

set_option maxRecDepth 100000 in
set_option maxHeartbeats 4000000 in
theorem turn_no (l : Lit) (w : World) (gs : Nat) (h : SH) (S : LS) (u : Tn) (hl : LitAt w w.heap.size l) (hs : StAt w h l.tn l.wn S) (hb : Blk w gs 113 (stL h l.tn l.wn)) (hg : GoodS l S) (hok : okLit l = true) (hp : pickS l S u = none) :
    Calls Try.prog 140 #[litV l, .int .i64 1, .pointer (some ⟨gs, 0, none⟩), tnV u] w (BoolR false w) := by
  obtain ⟨n1, n2, n3, n4⟩ := okLit_num hok
  have HL := Lib.hid hl
  have HS := Lib.hid hs
  have HB := Lib.hid hb
  have HG := Lib.hid hg
  have HOk := Lib.hid hok
  have HP := Lib.hid hp
  obtain ⟨tb, to', hta, htb, _⟩ := hl.heads n1
  clear hl hs hb hg hok hp
  obtain ⟨wA, wn, wk, ws, tA, tn, tk, th⟩ := l
  have hta' : tA = some ⟨tb, to', none⟩ := hta
  subst hta'
  clear hta
  dsimp only at n1 n2 n3 n4
  obtain ⟨ut, uo, ua⟩ := u
  obtain ⟨r, hr⟩ : ∃ r, (decide (0 ≤ ut) && decide (ut < (tn : Int))) = r := ⟨_, rfl⟩
  have HWi : Hid (∀ W, Calls Try.prog 150 #[.int .i64 ut, .int .i64 tn] W (fun e w' => e = .returned (.bool r) ∧ w' = W)) := fun W => win_b W hr
  cases r
  case false =>
    have HT := Lib.hid (Blk.new (w.alloc (.cells #[.slice wA wn wk, .slice (some ⟨tb, to', none⟩) tn tk] 101)) 131 [.int .i64 ut, .bool uo, .int .i64 ua])
    have HL0 : Hid (Blk ((w.alloc (.cells #[.slice wA wn wk, .slice (some ⟨tb, to', none⟩) tn tk] 101)).alloc (.cells #[.int .i64 ut, .bool uo, .int .i64 ua] 131)) w.heap.size 101 [.slice wA wn wk, .slice (some ⟨tb, to', none⟩) tn tk]) := (Blk.new w 101 [.slice wA wn wk, .slice (some ⟨tb, to', none⟩) tn tk]).alloc _
    have HU0 : Hid (Blk ((w.alloc (.cells #[.slice wA wn wk, .slice (some ⟨tb, to', none⟩) tn tk] 101)).alloc (.cells #[.int .i64 ut, .bool uo, .int .i64 ua] 131)) (w.heap.size + 1) 131 [.int .i64 ut, .bool uo, .int .i64 ua]) := by
      have h9 := HT.out
      rw [World.size_alloc] at h9
      exact h9
    have HW0 : Hid (Below w.heap.size w ((w.alloc (.cells #[.slice wA wn wk, .slice (some ⟨tb, to', none⟩) tn tk] 101)).alloc (.cells #[.int .i64 ut, .bool uo, .int .i64 ua] 131))) := ((Below.refl _ _).alloc (Nat.le_refl _) _).alloc (by simp) _
    clear HT
    go_enter Try.func140, Try.ntmps140
    go_upto_region 1 with fail
    generalize (w.alloc (.cells #[.slice wA wn wk, .slice (some ⟨tb, to', none⟩) tn tk] 101)).alloc (.cells #[.int .i64 ut, .bool uo, .int .i64 ua] 131) = w0 at HL0 HU0 HW0 ⊢
    have q0 : w0.cell? ⟨w.heap.size, 0, none⟩ = some (.slice wA wn wk) := HL0.out.cell rfl
    have q1 : w0.cell? ⟨w.heap.size, 1, none⟩ = some (.slice (some ⟨tb, to', none⟩) tn tk) := HL0.out.cell rfl
    have u0 : w0.cell? ⟨w.heap.size + 1, 0, none⟩ = some (.int .i64 ut) := HU0.out.cell rfl
    have u1 : w0.cell? ⟨w.heap.size + 1, 1, none⟩ = some (.bool uo) := HU0.out.cell rfl
    have u2 : w0.cell? ⟨w.heap.size + 1, 2, none⟩ = some (.int .i64 ua) := HU0.out.cell rfl
    go_wp2_with fail
    refine (HWi.out _).mono ?_
    rintro e w1 ⟨rfl, rfl⟩
    go_wp2_with fail
    go_ret
    exact ⟨rfl, HW0.out⟩
  simp only [Bool.and_eq_true, decide_eq_true_eq] at hr
  obtain ⟨t, rfl⟩ : ∃ t : Nat, ut = t := ⟨ut.toNat, by omega⟩
  have hlt : t < tn := by omega
  have e0 : (0 : Int) ≤ t := by omega
  have e1 : (t : Int) < tn := by omega
  cases uo
  case true =>
    have HT := Lib.hid (Blk.new (w.alloc (.cells #[.slice wA wn wk, .slice (some ⟨tb, to', none⟩) tn tk] 101)) 131 [.int .i64 t, .bool true, .int .i64 ua])
    have HL0 : Hid (Blk ((w.alloc (.cells #[.slice wA wn wk, .slice (some ⟨tb, to', none⟩) tn tk] 101)).alloc (.cells #[.int .i64 t, .bool true, .int .i64 ua] 131)) w.heap.size 101 [.slice wA wn wk, .slice (some ⟨tb, to', none⟩) tn tk]) := (Blk.new w 101 [.slice wA wn wk, .slice (some ⟨tb, to', none⟩) tn tk]).alloc _
    have HU0 : Hid (Blk ((w.alloc (.cells #[.slice wA wn wk, .slice (some ⟨tb, to', none⟩) tn tk] 101)).alloc (.cells #[.int .i64 t, .bool true, .int .i64 ua] 131)) (w.heap.size + 1) 131 [.int .i64 t, .bool true, .int .i64 ua]) := by
      have h9 := HT.out
      rw [World.size_alloc] at h9
      exact h9
    have HW0 : Hid (Below w.heap.size w ((w.alloc (.cells #[.slice wA wn wk, .slice (some ⟨tb, to', none⟩) tn tk] 101)).alloc (.cells #[.int .i64 t, .bool true, .int .i64 ua] 131))) := ((Below.refl _ _).alloc (Nat.le_refl _) _).alloc (by simp) _
    clear HT
    go_enter Try.func140, Try.ntmps140
    go_upto_region 1 with fail
    generalize (w.alloc (.cells #[.slice wA wn wk, .slice (some ⟨tb, to', none⟩) tn tk] 101)).alloc (.cells #[.int .i64 t, .bool true, .int .i64 ua] 131) = w0 at HL0 HU0 HW0 ⊢
    have q0 : w0.cell? ⟨w.heap.size, 0, none⟩ = some (.slice wA wn wk) := HL0.out.cell rfl
    have q1 : w0.cell? ⟨w.heap.size, 1, none⟩ = some (.slice (some ⟨tb, to', none⟩) tn tk) := HL0.out.cell rfl
    have u0 : w0.cell? ⟨w.heap.size + 1, 0, none⟩ = some (.int .i64 t) := HU0.out.cell rfl
    have u1 : w0.cell? ⟨w.heap.size + 1, 1, none⟩ = some (.bool true) := HU0.out.cell rfl
    have u2 : w0.cell? ⟨w.heap.size + 1, 2, none⟩ = some (.int .i64 ua) := HU0.out.cell rfl
    go_wp2_with fail
    refine (HWi.out _).mono ?_
    rintro e w1 ⟨rfl, rfl⟩
    go_wp2_with fail
    refine (out_any gs h tn wn S t true ua w1 (HS.out.on HW0.out) (HB.out.below HW0.out HB.out.lt) hlt).mono ?_
    rintro e w2 ⟨rfl, hb2⟩
    have HW2 := Lib.hid (HW0.out.trans (hb2.mono HW0.out.size))
    go_wp2_with fail
    go_ret
    exact ⟨rfl, HW2.out⟩
  have HT := Lib.hid (Blk.new (w.alloc (.cells #[.slice wA wn wk, .slice (some ⟨tb, to', none⟩) tn tk] 101)) 131 [.int .i64 t, .bool false, .int .i64 ua])
  have HL0 : Hid (Blk ((w.alloc (.cells #[.slice wA wn wk, .slice (some ⟨tb, to', none⟩) tn tk] 101)).alloc (.cells #[.int .i64 t, .bool false, .int .i64 ua] 131)) w.heap.size 101 [.slice wA wn wk, .slice (some ⟨tb, to', none⟩) tn tk]) := (Blk.new w 101 [.slice wA wn wk, .slice (some ⟨tb, to', none⟩) tn tk]).alloc _
  have HU0 : Hid (Blk ((w.alloc (.cells #[.slice wA wn wk, .slice (some ⟨tb, to', none⟩) tn tk] 101)).alloc (.cells #[.int .i64 t, .bool false, .int .i64 ua] 131)) (w.heap.size + 1) 131 [.int .i64 t, .bool false, .int .i64 ua]) := by
    have h9 := HT.out
    rw [World.size_alloc] at h9
    exact h9
  have HW0 : Hid (Below w.heap.size w ((w.alloc (.cells #[.slice wA wn wk, .slice (some ⟨tb, to', none⟩) tn tk] 101)).alloc (.cells #[.int .i64 t, .bool false, .int .i64 ua] 131))) := ((Below.refl _ _).alloc (Nat.le_refl _) _).alloc (by simp) _
  clear HT
  go_enter Try.func140, Try.ntmps140
  go_upto_region 1 with fail
  generalize (w.alloc (.cells #[.slice wA wn wk, .slice (some ⟨tb, to', none⟩) tn tk] 101)).alloc (.cells #[.int .i64 t, .bool false, .int .i64 ua] 131) = w0 at HL0 HU0 HW0 ⊢
  have q0 : w0.cell? ⟨w.heap.size, 0, none⟩ = some (.slice wA wn wk) := HL0.out.cell rfl
  have q1 : w0.cell? ⟨w.heap.size, 1, none⟩ = some (.slice (some ⟨tb, to', none⟩) tn tk) := HL0.out.cell rfl
  have u0 : w0.cell? ⟨w.heap.size + 1, 0, none⟩ = some (.int .i64 t) := HU0.out.cell rfl
  have u1 : w0.cell? ⟨w.heap.size + 1, 1, none⟩ = some (.bool false) := HU0.out.cell rfl
  have u2 : w0.cell? ⟨w.heap.size + 1, 2, none⟩ = some (.int .i64 ua) := HU0.out.cell rfl
  obtain ⟨x, hx⟩ := at_lt (show t < th.length by have := HL.out.tlen; dsimp only at this; omega)
  have hL := HL.out.keep HW0.out
  obtain ⟨tb2, to2, hta2, htb2, htc⟩ := hL.head hx
  injection hta2 with hta2
  injection hta2 with e1 e2
  subst e1 e2
  have hcl := hL.clen (List.mem_of_getElem? hx)
  have hco := (hL.code x (List.mem_of_getElem? hx)).2.1
  have hn1 := hco.1
  have hn2 := hco.2
  unfold maxLen at hn2
  have h10 := (okLit_code HOk.out hx).1
  have HX := Lib.hid hx
  have HCl := Lib.hid hcl
  have HLK := Lib.hid hL
  clear hx hco hL hcl
  obtain ⟨⟨xA, xn, xk⟩, code⟩ := x
  dsimp only at hn1 hn2 htc h10
  have hpt := (HS.out.on HW0.out).place (LS.p_at (S := S) (t := t) (by rw [(HS.out).plen]; exact hlt))
  have s2 : w0.cell? ⟨gs, 2, none⟩ = some (.slice (some ⟨h.gp, 0, none⟩) tn h.kp) := (HB.out.below HW0.out HB.out.lt).cell rfl
  have hge : xn ≤ S.p t := by
    have h9 := HP.out
    unfold pickS at h9
    dsimp only at h9
    rw [if_pos ⟨hr.1, hr.2, rfl⟩, Int.toNat_natCast, codeOf_at HX.out, List.getElem?_eq_none_iff] at h9
    have := HCl.out
    dsimp only at h9 this
    omega
  have d1 : decide ((xn : Int) ≤ S.p t) = true := by simp; omega
  have d2 : (xn : Int) ≤ S.p t := by omega
  go_wp2_with fail
  refine (HWi.out _).mono ?_
  rintro e w1 ⟨rfl, rfl⟩
  go_wp2_with fail
  go_upto_region 6 with fail
  go_quiet (fail)
  go_wp2_with fail
  go_ret
  exact ⟨rfl, HW0.out.trans ((Below.refl _ _).drewN _)⟩

theorem size_rules : (Try.prog.info? 311).map (·.size) = some 8 := by kernel_rfl
theorem rules_one (gk : Nat) : (#[.nilFunc, .func (.func 154) #[.pointer (some ⟨gk, 0, none⟩)] #[], .func (.func 155) #[.pointer (some ⟨gk, 0, none⟩)] #[], .func (.func 156) #[.pointer (some ⟨gk, 0, none⟩)] #[], .func (.func 157) #[.pointer (some ⟨gk, 0, none⟩)] #[], .func (.func 158) #[.pointer (some ⟨gk, 0, none⟩)] #[], .func (.func 159) #[.pointer (some ⟨gk, 0, none⟩)] #[], .func (.func 160) #[.pointer (some ⟨gk, 0, none⟩)] #[]] : Array Value).all (·.oneCell') = true := by simp [Value.oneCell']

set_option maxRecDepth 100000 in
set_option maxHeartbeats 8000000 in
theorem turn_yes (l : Lit) (w : World) (gs : Nat) (h : SH) (S : LS) (u : Tn) (x9 : Ins) (hl : LitAt w w.heap.size l) (hs : StAt w h l.tn l.wn S) (hb : Blk w gs 113 (stL h l.tn l.wn)) (hg : GoodS l S) (hok : okLit l = true) (hp : pickS l S u = some x9) :
    Calls Try.prog 140 #[litV l, .int .i64 1, .pointer (some ⟨gs, 0, none⟩), tnV u] w (WkR h l.tn l.wn (turnS l S u) true w) := by
  have HTS := Lib.hid (show turnS l S u = nextS S u.t.toNat (codeOf l u.t.toNat).length x9 by unfold turnS; rw [hp])
  obtain ⟨n1, n2, n3, n4⟩ := okLit_num hok
  have HL := Lib.hid hl
  have HS := Lib.hid hs
  have HB := Lib.hid hb
  have HG := Lib.hid hg
  have HOk := Lib.hid hok
  have HP := Lib.hid hp
  obtain ⟨tb, to', hta, htb, _⟩ := hl.heads n1
  clear hl hs hb hg hok hp
  obtain ⟨wA, wn, wk, ws, tA, tn, tk, th⟩ := l
  have hta' : tA = some ⟨tb, to', none⟩ := hta
  subst hta'
  clear hta
  dsimp only at n1 n2 n3 n4
  obtain ⟨ut, uo, ua⟩ := u
  have hr : (0 ≤ ut ∧ ut < (tn : Int) ∧ uo = false) := by
    have h9 := HP.out
    unfold pickS at h9
    dsimp only at h9
    by_cases hc : 0 ≤ ut ∧ ut < (tn : Int) ∧ uo = false
    · exact hc
    · rw [if_neg hc] at h9
      cases h9
  obtain ⟨hr1, hr2, rfl⟩ := hr
  obtain ⟨t, rfl⟩ : ∃ t : Nat, ut = t := ⟨ut.toNat, by omega⟩
  have HWi : Hid (∀ W, Calls Try.prog 150 #[.int .i64 t, .int .i64 tn] W (fun e w' => e = .returned (.bool true) ∧ w' = W)) := fun W => win_b W (by simp; omega)
  have hlt : t < tn := by omega
  have e0 : (0 : Int) ≤ t := by omega
  have e1 : (t : Int) < tn := by omega
  have HT := Lib.hid (Blk.new (w.alloc (.cells #[.slice wA wn wk, .slice (some ⟨tb, to', none⟩) tn tk] 101)) 131 [.int .i64 t, .bool false, .int .i64 ua])
  have HL0 : Hid (Blk ((w.alloc (.cells #[.slice wA wn wk, .slice (some ⟨tb, to', none⟩) tn tk] 101)).alloc (.cells #[.int .i64 t, .bool false, .int .i64 ua] 131)) w.heap.size 101 [.slice wA wn wk, .slice (some ⟨tb, to', none⟩) tn tk]) := (Blk.new w 101 [.slice wA wn wk, .slice (some ⟨tb, to', none⟩) tn tk]).alloc _
  have HU0 : Hid (Blk ((w.alloc (.cells #[.slice wA wn wk, .slice (some ⟨tb, to', none⟩) tn tk] 101)).alloc (.cells #[.int .i64 t, .bool false, .int .i64 ua] 131)) (w.heap.size + 1) 131 [.int .i64 t, .bool false, .int .i64 ua]) := by
    have h9 := HT.out
    rw [World.size_alloc] at h9
    exact h9
  have HW0 : Hid (Below w.heap.size w ((w.alloc (.cells #[.slice wA wn wk, .slice (some ⟨tb, to', none⟩) tn tk] 101)).alloc (.cells #[.int .i64 t, .bool false, .int .i64 ua] 131))) := ((Below.refl _ _).alloc (Nat.le_refl _) _).alloc (by simp) _
  clear HT
  go_enter Try.func140, Try.ntmps140
  go_upto_region 1 with fail
  generalize (w.alloc (.cells #[.slice wA wn wk, .slice (some ⟨tb, to', none⟩) tn tk] 101)).alloc (.cells #[.int .i64 t, .bool false, .int .i64 ua] 131) = w0 at HL0 HU0 HW0 ⊢
  have q0 : w0.cell? ⟨w.heap.size, 0, none⟩ = some (.slice wA wn wk) := HL0.out.cell rfl
  have q1 : w0.cell? ⟨w.heap.size, 1, none⟩ = some (.slice (some ⟨tb, to', none⟩) tn tk) := HL0.out.cell rfl
  have u0 : w0.cell? ⟨w.heap.size + 1, 0, none⟩ = some (.int .i64 t) := HU0.out.cell rfl
  have u1 : w0.cell? ⟨w.heap.size + 1, 1, none⟩ = some (.bool false) := HU0.out.cell rfl
  have u2 : w0.cell? ⟨w.heap.size + 1, 2, none⟩ = some (.int .i64 ua) := HU0.out.cell rfl
  obtain ⟨x, hx⟩ := at_lt (show t < th.length by have := HL.out.tlen; dsimp only at this; omega)
  have hL := HL.out.keep HW0.out
  obtain ⟨tb2, to2, hta2, htb2, htc⟩ := hL.head hx
  injection hta2 with hta2
  injection hta2 with e1 e2
  subst e1 e2
  have hcl := hL.clen (List.mem_of_getElem? hx)
  have hco := (hL.code x (List.mem_of_getElem? hx)).2.1
  have hn1 := hco.1
  have hn2 := hco.2
  unfold maxLen at hn2
  have h10 := (okLit_code HOk.out hx).1
  have HX := Lib.hid hx
  have HCl := Lib.hid hcl
  have HLK := Lib.hid hL
  clear hx hco hL hcl
  obtain ⟨⟨xA, xn, xk⟩, code⟩ := x
  dsimp only at hn1 hn2 htc h10
  have hpt := (HS.out.on HW0.out).place (LS.p_at (S := S) (t := t) (by rw [(HS.out).plen]; exact hlt))
  have s2 : w0.cell? ⟨gs, 2, none⟩ = some (.slice (some ⟨h.gp, 0, none⟩) tn h.kp) := (HB.out.below HW0.out HB.out.lt).cell rfl
  have hp9 : code[S.p t]? = some x9 := by
    have h9 := HP.out
    unfold pickS at h9
    dsimp only at h9
    rwa [if_pos ⟨hr1, hr2, rfl⟩, Int.toNat_natCast, codeOf_at HX.out] at h9
  have hlt2 : S.p t < xn := by
    have := HCl.out
    have := (List.getElem?_eq_some_iff.1 hp9).1
    dsimp only at *
    omega
  have HTS2 : Hid (turnS ⟨wA, wn, wk, ws, some ⟨tb, to', none⟩, tn, tk, th⟩ S ⟨t, false, ua⟩ = nextS S t xn x9) := by
    have h9 := HTS.out
    rw [h9]
    dsimp only
    rw [Int.toNat_natCast, codeOf_at HX.out]
    have := HCl.out
    dsimp only at this
    rw [← this]
    exact Lib.hid rfl
  clear HTS
  have hok9 := (okLit_code HOk.out HX.out).2 x9 (List.mem_of_getElem? hp9)
  have hL2 := HL.out.keep HW0.out
  obtain ⟨cb, co, hca, hcb, hc⟩ := ins_cell (hL2.code _ (List.mem_of_getElem? HX.out)).1 hp9
  have hca' : xA = some ⟨cb, co, none⟩ := hca
  subst hca'
  have HOk9 := Lib.hid hok9
  clear hca hL2 hp9 hok9
  obtain ⟨kd, rg, ad, vl, sr, od, ct⟩ := x9
  have c0 := hc.c0
  have c1 := hc.c1
  have c2 := hc.c2
  have c3 := hc.c3
  have c4 := hc.c4
  have c5 := hc.c5
  have c6 := hc.c6
  dsimp only at c0 c1 c2 c3 c4 c5 c6
  clear hc
  have d1 : decide ((xn : Int) ≤ S.p t) = false := by simp; omega
  have d2 : ¬ (xn : Int) ≤ S.p t := by omega
  have f0 : (0 : Int) ≤ S.p t := by omega
  have f1 : (S.p t : Int) < xn := by omega
  go_wp2_with fail
  refine (HWi.out _).mono ?_
  rintro e w1 ⟨rfl, rfl⟩
  go_wp2_with fail
  go_upto_region 6 with fail
  go_quiet (fail)
  obtain ⟨V, hV, HVb⟩ : ∃ V, V = w1.drewN nq ∧ Below w1.heap.size w1 V := ⟨_, rfl, (Below.refl _ _).drewN _⟩
  rw [← hV]
  have HB1 := Lib.hid (HVb)
  have v0 : V.cell? ⟨cb, co + S.p t * 7, none⟩ = some (.int .i64 kd) := by rw [hV]; exact c0
  have v1 : V.cell? ⟨cb, co + S.p t * 7 + 1, none⟩ = some (.int .i64 rg) := by rw [hV]; exact c1
  have v2 : V.cell? ⟨cb, co + S.p t * 7 + 2, none⟩ = some (.int .i64 ad) := by rw [hV]; exact c2
  have v3 : V.cell? ⟨cb, co + S.p t * 7 + 3, none⟩ = some (.int .i64 vl) := by rw [hV]; exact c3
  have v4 : V.cell? ⟨cb, co + S.p t * 7 + 4, none⟩ = some (.int .i64 sr) := by rw [hV]; exact c4
  have v5 : V.cell? ⟨cb, co + S.p t * 7 + 5, none⟩ = some (.int .i64 od) := by rw [hV]; exact c5
  have v6 : V.cell? ⟨cb, co + S.p t * 7 + 6, none⟩ = some (.int .i64 ct) := by rw [hV]; exact c6
  clear hV c0 c1 c2 c3 c4 c5 c6 hpt s2 htc q0 q1 u0 u1 u2 HVb
  have HWV := Lib.hid (HW0.out.trans (HB1.out.mono HW0.out.size))
  have HLV := Lib.hid (HL0.out.below HB1.out HL0.out.lt)
  have HUV := Lib.hid (HU0.out.below HB1.out HU0.out.lt)
  clear HB1 HL0 HU0 HW0
  go_upto_region 10 with fail
  obtain ⟨gi, hgi⟩ : ∃ gi, gi = V.heap.size := ⟨_, rfl⟩
  obtain ⟨X, hX, HXi, HXb⟩ : ∃ X, X = V.alloc (.cells #[.int .i64 kd, .int .i64 rg, .int .i64 ad, .int .i64 vl, .int .i64 sr, .int .i64 od, .int .i64 ct] 204) ∧ Hid (Blk X gi 204 [.int .i64 kd, .int .i64 rg, .int .i64 ad, .int .i64 vl, .int .i64 sr, .int .i64 od, .int .i64 ct]) ∧ Below V.heap.size V X := ⟨_, rfl, by rw [hgi]; exact Blk.new _ _ _, (Below.refl _ _).alloc (Nat.le_refl _) _⟩
  rw [← hX, ← hgi]
  have HLX := Lib.hid (HLV.out.below HXb HLV.out.lt)
  have HUX := Lib.hid (HUV.out.below HXb HUV.out.lt)
  have HWX := Lib.hid (HWV.out.trans (HXb.mono HWV.out.size))
  have hgl : w.heap.size + 1 < gi := by have := HUV.out.lt; omega
  clear hX HXb HLV HUV HWV v0 v1 v2 v3 v4 v5 v6 hgi
  have j0 : X.cell? ⟨gi, 0, none⟩ = some (.int .i64 kd) := HXi.out.cell rfl
  have j1 : X.cell? ⟨gi, 1, none⟩ = some (.int .i64 rg) := HXi.out.cell rfl
  have j2 : X.cell? ⟨gi, 2, none⟩ = some (.int .i64 ad) := HXi.out.cell rfl
  have j3 : X.cell? ⟨gi, 3, none⟩ = some (.int .i64 vl) := HXi.out.cell rfl
  have j4 : X.cell? ⟨gi, 4, none⟩ = some (.int .i64 sr) := HXi.out.cell rfl
  have j5 : X.cell? ⟨gi, 5, none⟩ = some (.int .i64 od) := HXi.out.cell rfl
  have j6 : X.cell? ⟨gi, 6, none⟩ = some (.int .i64 ct) := HXi.out.cell rfl
  have u0 : X.cell? ⟨w.heap.size + 1, 0, none⟩ = some (.int .i64 t) := HUX.out.cell rfl
  have d3 : ((1 : Int) != 1) = false := rfl
  go_upto_region 11 with fail
  obtain ⟨gk, hgk⟩ : ∃ gk, gk = X.heap.size := ⟨_, rfl⟩
  obtain ⟨Y, hY, HKY, HYb⟩ : ∃ Y, Y = X.alloc (.cells #[.pointer (some ⟨gs, 0, none⟩), .int .i64 kd, .int .i64 rg, .int .i64 ad, .int .i64 vl, .int .i64 sr, .int .i64 od, .int .i64 ct, .int .i64 t, .bool false] 310) ∧ Hid (Blk Y gk 310 [.pointer (some ⟨gs, 0, none⟩), .int .i64 kd, .int .i64 rg, .int .i64 ad, .int .i64 vl, .int .i64 sr, .int .i64 od, .int .i64 ct, .int .i64 t, .bool false]) ∧ Below X.heap.size X Y := ⟨_, rfl, by rw [hgk]; exact Blk.new _ _ _, (Below.refl _ _).alloc (Nat.le_refl _) _⟩
  rw [← hY, ← hgk]
  have HIY := Lib.hid (HXi.out.below HYb HXi.out.lt)
  have HUY := Lib.hid (HUX.out.below HYb HUX.out.lt)
  have HWY := Lib.hid (HWX.out.trans (HYb.mono HWX.out.size))
  have hgl2 : gi < gk := by have := HXi.out.lt; omega
  clear hY HYb HLX HUX HWX HXi hgk j0 j1 j2 j3 j4 j5 j6 u0 d3
  have hmf : ∀ fn first cap w, (Instr.makeFunc fn first cap).run Try.prog w = .ok (.func fn first cap) w := fun _ _ _ _ => rfl
  go_upto_region 12 with (refine wpList_store_row rfl _ _ _ rfl Y.heap.size #[.nilFunc, .func (.func 154) #[.pointer (some ⟨gk, 0, none⟩)] #[], .func (.func 155) #[.pointer (some ⟨gk, 0, none⟩)] #[], .func (.func 156) #[.pointer (some ⟨gk, 0, none⟩)] #[], .func (.func 157) #[.pointer (some ⟨gk, 0, none⟩)] #[], .func (.func 158) #[.pointer (some ⟨gk, 0, none⟩)] #[], .func (.func 159) #[.pointer (some ⟨gk, 0, none⟩)] #[], .func (.func 160) #[.pointer (some ⟨gk, 0, none⟩)] #[]] rfl rfl 311 _ (Blk.new Y 311 [.nilFunc, .nilFunc, .nilFunc, .nilFunc, .nilFunc, .nilFunc, .nilFunc, .nilFunc]) size_rules rfl (rules_one gk) ?_)
  simp only [Act.put]
  go_upto_region 12 with fail
  obtain ⟨gu, hgu⟩ : ∃ gu, gu = Y.heap.size := ⟨_, rfl⟩
  obtain ⟨Z, hZ, HRZ, HZb⟩ : ∃ Z, Z = (Y.alloc (.cells #[.nilFunc, .nilFunc, .nilFunc, .nilFunc, .nilFunc, .nilFunc, .nilFunc, .nilFunc] 311)).setRow Y.heap.size #[.nilFunc, .func (.func 154) #[.pointer (some ⟨gk, 0, none⟩)] #[], .func (.func 155) #[.pointer (some ⟨gk, 0, none⟩)] #[], .func (.func 156) #[.pointer (some ⟨gk, 0, none⟩)] #[], .func (.func 157) #[.pointer (some ⟨gk, 0, none⟩)] #[], .func (.func 158) #[.pointer (some ⟨gk, 0, none⟩)] #[], .func (.func 159) #[.pointer (some ⟨gk, 0, none⟩)] #[], .func (.func 160) #[.pointer (some ⟨gk, 0, none⟩)] #[]] ∧ Hid (Blk Z gu 311 [.nilFunc, .func (.func 154) #[.pointer (some ⟨gk, 0, none⟩)] #[], .func (.func 155) #[.pointer (some ⟨gk, 0, none⟩)] #[], .func (.func 156) #[.pointer (some ⟨gk, 0, none⟩)] #[], .func (.func 157) #[.pointer (some ⟨gk, 0, none⟩)] #[], .func (.func 158) #[.pointer (some ⟨gk, 0, none⟩)] #[], .func (.func 159) #[.pointer (some ⟨gk, 0, none⟩)] #[], .func (.func 160) #[.pointer (some ⟨gk, 0, none⟩)] #[]]) ∧ Below Y.heap.size Y Z := ⟨_, rfl, by rw [hgu]; exact setRow_heap _ _ _ #[.nilFunc, .func (.func 154) #[.pointer (some ⟨gk, 0, none⟩)] #[], .func (.func 155) #[.pointer (some ⟨gk, 0, none⟩)] #[], .func (.func 156) #[.pointer (some ⟨gk, 0, none⟩)] #[], .func (.func 157) #[.pointer (some ⟨gk, 0, none⟩)] #[], .func (.func 158) #[.pointer (some ⟨gk, 0, none⟩)] #[], .func (.func 159) #[.pointer (some ⟨gk, 0, none⟩)] #[], .func (.func 160) #[.pointer (some ⟨gk, 0, none⟩)] #[]] _ _ (Blk.new Y 311 [.nilFunc, .nilFunc, .nilFunc, .nilFunc, .nilFunc, .nilFunc, .nilFunc, .nilFunc]), rowB ((Below.refl _ _).alloc (Nat.le_refl _) _) (Nat.le_refl _)⟩
  rw [← hZ, ← hgu]
  have HIZ := Lib.hid (HIY.out.below HZb HIY.out.lt)
  have HUZ := Lib.hid (HUY.out.below HZb HUY.out.lt)
  have HWZ := Lib.hid (HWY.out.trans (HZb.mono HWY.out.size))
  have HKZ : Hid (WkAt Z gk gs h tn wn S t ⟨kd, rg, ad, vl, sr, od, ct⟩) := ⟨HKY.out.below HZb HKY.out.lt, HB.out.below HWZ.out HB.out.lt, HS.out.on HWZ.out, hlt, n2, n4⟩
  have hp10 : S.p t ≤ 10 := by omega
  clear hZ HZb HKY HIY HUY HWY hmf hgu
  have j0 : Z.cell? ⟨gi, 0, none⟩ = some (.int .i64 kd) := HIZ.out.cell rfl
  go_cut [77] (fun s wc => s = .bool false ∧ Hid (WkR h tn wn (midS S t ⟨kd, rg, ad, vl, sr, od, ct⟩) true Z (.returned (.bool true)) wc))
  case first =>
    have hkk : kd = 1 ∨ kd = 2 ∨ kd = 3 ∨ kd = 4 ∨ kd = 5 ∨ kd = 6 ∨ kd = 7 := by
      have h9 := HOk9.out
      unfold okIns at h9
      by_cases k1 : kd = 1 ∨ kd = 3
      · omega
      · rw [if_neg k1] at h9
        by_cases k2 : kd = 2
        · omega
        · rw [if_neg k2] at h9
          by_cases k3 : kd = 4
          · omega
          · rw [if_neg k3] at h9
            by_cases k4 : kd = 5 ∨ kd = 6
            · omega
            · rw [if_neg k4] at h9
              by_cases k5 : kd = 7
              · omega
              · rw [if_neg k5] at h9
                cases h9
    rcases hkk with rfl | hkk
    · have j1 : Z.cell? ⟨gu, 1, none⟩ = some (.func (.func 154) #[.pointer (some ⟨gk, 0, none⟩)] #[]) := HRZ.out.cell rfl
      go_wp2_with fail
      refine (rule_load HKZ.out rfl HOk9.out).mono ?_
      rintro e wq ⟨rfl, hq1, hq2⟩
      go_wp2_with fail
      go_meet
      exact ⟨rfl, rfl, hq1, hq2⟩
    rcases hkk with rfl | hkk
    · have j1 : Z.cell? ⟨gu, 2, none⟩ = some (.func (.func 155) #[.pointer (some ⟨gk, 0, none⟩)] #[]) := HRZ.out.cell rfl
      go_wp2_with fail
      refine (rule_store HKZ.out rfl HOk9.out).mono ?_
      rintro e wq ⟨rfl, hq1, hq2⟩
      go_wp2_with fail
      go_meet
      exact ⟨rfl, rfl, hq1, hq2⟩
    rcases hkk with rfl | hkk
    · have j1 : Z.cell? ⟨gu, 3, none⟩ = some (.func (.func 156) #[.pointer (some ⟨gk, 0, none⟩)] #[]) := HRZ.out.cell rfl
      go_wp2_with fail
      refine (rule_swap HKZ.out rfl HOk9.out).mono ?_
      rintro e wq ⟨rfl, hq1, hq2⟩
      go_wp2_with fail
      go_meet
      exact ⟨rfl, rfl, hq1, hq2⟩
    rcases hkk with rfl | hkk
    · have j1 : Z.cell? ⟨gu, 4, none⟩ = some (.func (.func 157) #[.pointer (some ⟨gk, 0, none⟩)] #[]) := HRZ.out.cell rfl
      go_wp2_with fail
      refine (rule_fence HKZ.out rfl).mono ?_
      rintro e wq ⟨rfl, hq1, hq2⟩
      go_wp2_with fail
      go_meet
      exact ⟨rfl, rfl, hq1, hq2⟩
    rcases hkk with rfl | hkk
    · have j1 : Z.cell? ⟨gu, 5, none⟩ = some (.func (.func 158) #[.pointer (some ⟨gk, 0, none⟩)] #[]) := HRZ.out.cell rfl
      go_wp2_with fail
      refine (rule_set HKZ.out rfl HOk9.out).mono ?_
      rintro e wq ⟨rfl, hq1, hq2⟩
      go_wp2_with fail
      go_meet
      exact ⟨rfl, rfl, hq1, hq2⟩
    rcases hkk with rfl | hkk
    · have j1 : Z.cell? ⟨gu, 6, none⟩ = some (.func (.func 159) #[.pointer (some ⟨gk, 0, none⟩)] #[]) := HRZ.out.cell rfl
      go_wp2_with fail
      refine (rule_add HKZ.out rfl HOk9.out).mono ?_
      rintro e wq ⟨rfl, hq1, hq2⟩
      go_wp2_with fail
      go_meet
      exact ⟨rfl, rfl, hq1, hq2⟩
    subst hkk
    · have j1 : Z.cell? ⟨gu, 7, none⟩ = some (.func (.func 160) #[.pointer (some ⟨gk, 0, none⟩)] #[]) := HRZ.out.cell rfl
      go_wp2_with fail
      refine (rule_skip HKZ.out rfl HOk9.out hp10).mono ?_
      rintro e wq ⟨rfl, hq1, hq2⟩
      go_wp2_with fail
      go_meet
      exact ⟨rfl, rfl, hq1, hq2⟩
  case rest =>
    obtain ⟨rfl, HM⟩ := hcut
    obtain ⟨_, hst, hfr⟩ := HM.out
    obtain ⟨Q, rfl⟩ : ∃ Q : World, Q = wc := ⟨_, rfl⟩
    have HSt := Lib.hid hst
    have HFr := Lib.hid hfr
    have hpl : t < S.ps.length := by rw [HS.out.plen]; exact hlt
    have HNx := Lib.hid (mid_next (c := xn) (x := ⟨kd, rg, ad, vl, sr, od, ct⟩) hpl)
    have hPle : (midS S t ⟨kd, rg, ad, vl, sr, od, ct⟩).p t ≤ 20 := by
      rw [midS_p hpl]
      unfold skipS
      dsimp only
      have h9 := HOk9.out
      unfold okIns at h9
      split
      · rename_i hk
        rw [if_neg (by dsimp only; omega), if_neg (by dsimp only; omega), if_neg (by dsimp only; omega), if_neg (by dsimp only; omega), if_pos hk.1] at h9
        simp at h9
        omega
      · omega
    have hQs : Blk Q gs 113 (stL h tn wn) := HKZ.out.s.kept (hfr.block gs HKZ.out.s.lt (by
      have := HKZ.out.no.2
      rintro (e | e | e)
      · exact this.1 e
      · exact this.2.1 e
      · exact this.2.2 e))
    have hQu : Blk Q (w.heap.size + 1) 131 [.int .i64 t, .bool false, .int .i64 ua] := HUZ.out.kept (hfr.block _ HUZ.out.lt (by
      rintro (e | e | e)
      · exact HKZ.out.st.w.ne HUZ.out (by decide) e
      · exact HKZ.out.st.r.ne HUZ.out (by decide) e
      · exact HKZ.out.st.p.ne HUZ.out (by decide) e))
    have s2 : Q.cell? ⟨gs, 2, none⟩ = some (.slice (some ⟨h.gp, 0, none⟩) tn h.kp) := hQs.cell rfl
    have u0 : Q.cell? ⟨w.heap.size + 1, 0, none⟩ = some (.int .i64 t) := hQu.cell rfl
    have hpc := hst.place (LS.p_at (S := midS S t ⟨kd, rg, ad, vl, sr, od, ct⟩) (t := t) (by rw [hst.plen]; exact hlt))
    have hpf := hst.p.frozen t
    clear hst hfr HM hQs hQu j0
    obtain ⟨P, hP⟩ : ∃ P, (midS S t ⟨kd, rg, ad, vl, sr, od, ct⟩).p t = P := ⟨_, rfl⟩
    rw [hP] at hpc hPle
    have HPe := Lib.hid hP
    have x1 : IntKind.i64.wrap ((P : Int) + 1) = ((P + 1 : Nat) : Int) := (IntWalk.i64_in _ (by omega)).trans (by simp)
    have x2 : min ((P + 1 : Nat) : Int) (xn : Int) = ((min (P + 1) xn : Nat) : Int) := by omega
    have HEnd : Hid (∀ v : Int, v = ((min (P + 1) xn : Nat) : Int) → WkR h tn wn (turnS ⟨wA, wn, wk, ws, some ⟨tb, to', none⟩, tn, tk, th⟩ S ⟨t, false, ua⟩) true w (.returned (.bool true)) (Q.setCell ⟨h.gp, t, none⟩ (.int .i64 v)).drew) := by
      intro v hv
      subst hv
      have h8 := (HSt.out.setP t (min (P + 1) xn))
      have h7 := HTS2.out
      rw [HNx.out, hP] at h7
      rw [h7]
      refine ⟨rfl, h8.on (Below.refl _ _).drew, ((Fr.of HWZ.out).trans (HFr.out.setCell (Or.inr (Or.inr rfl)) _)).drew⟩
    clear hP
    go_upto_region 14 with fail
    go_still_tail 18, (by kernel_rfl)
    go_wp2_with fail
    all_goals (go_ret; exact HEnd.out _ (by omega))

end Go.Proofs.Ytgbopmgeicokoaa
