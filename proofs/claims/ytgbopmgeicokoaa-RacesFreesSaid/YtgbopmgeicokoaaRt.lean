/-
  reclaimref19.see, reclaimref19.out and reclaimref19.Turn, under sequential consistency with empty buffers.
-/
import Derived.Test.YtgbopmgeicokoaaMad
namespace Go.Proofs.Ytgbopmgeicokoaa
open Go.RowKit
set_option linter.unusedVariables false
set_option linter.unusedSimpArgs false

/-- a state as it lies in a block of its own or in a greater one's head -/
structure HdAt (W : World) (gs : Nat) (h : SH) (n nw : Nat) (S : LS) (tt : TypeId) (xs : List Value) : Prop where
  b : Blk W gs tt (stL h n nw ++ xs)
  st : StAt W h n nw S
  ne : gs ≠ h.gw ∧ gs ≠ h.gr ∧ gs ≠ h.gp
section
variable {W W' : World} {gs : Nat} {h : SH} {n nw : Nat} {S : LS} {tt : TypeId} {xs : List Value}
theorem HdAt.on (H : HdAt W gs h n nw S tt xs) (hb : Below W.heap.size W W') : HdAt W' gs h n nw S tt xs := ⟨H.b.below hb H.b.lt, H.st.on hb, H.ne⟩
theorem HdAt.setR (H : HdAt W gs h n nw S tt xs) (j : Nat) (z : Int) : HdAt (W.setCell ⟨h.gr, j, none⟩ (.int .i64 z)) gs h n nw ⟨S.ws, S.rs.set j z, S.ps⟩ tt xs := ⟨H.b.far H.ne.2.1 _, H.st.setR j z, H.ne⟩
theorem HdAt.setW (H : HdAt W gs h n nw S tt xs) (j : Nat) (z : Int) : HdAt (W.setCell ⟨h.gw, j, none⟩ (.int .i64 z)) gs h n nw ⟨S.ws.set j z, S.rs, S.ps⟩ tt xs := ⟨H.b.far H.ne.1 _, H.st.setW j z, H.ne⟩
theorem HdAt.s0 (H : HdAt W gs h n nw S tt xs) : W.cell? ⟨gs, 0, none⟩ = some (.slice (some ⟨h.gw, 0, none⟩) nw h.kw) := H.b.cell rfl
theorem HdAt.s1 (H : HdAt W gs h n nw S tt xs) : W.cell? ⟨gs, 1, none⟩ = some (.slice (some ⟨h.gr, 0, none⟩) n h.kr) := H.b.cell rfl
theorem HdAt.s2 (H : HdAt W gs h n nw S tt xs) : W.cell? ⟨gs, 2, none⟩ = some (.slice (some ⟨h.gp, 0, none⟩) n h.kp) := H.b.cell rfl
theorem HdAt.s3 (H : HdAt W gs h n nw S tt xs) : W.cell? ⟨gs, 3, none⟩ = some (.slice (some ⟨h.gb, 0, none⟩) n h.kb) := H.b.cell rfl
end
set_option maxRecDepth 100000 in
set_option maxHeartbeats 4000000 in
theorem see_any (W : World) (gs : Nat) (h : SH) (n nw : Nat) (S : LS) (tt : TypeId) (xs : List Value) (H : HdAt W gs h n nw S tt xs) (t ad : Nat) (ht : t < n) (ha : ad < nw) :
    Calls Try.prog 142 #[.pointer (some ⟨gs, 0, none⟩), .int .i64 t, .int .i64 ad] W (fun e w' => e = .returned (.int .i64 (S.w ad)) ∧ w' = W) := by
  have s0 := H.s0
  have s3 := H.s3
  have c0 : W.cell? ⟨h.gw, ad, none⟩ = some (.int .i64 (S.w ad)) := H.st.word (LS.w_at (by rw [H.st.wlen]; exact ha))
  have c1 : W.cell? ⟨h.gb, t, none⟩ = some (.slice none 0 0) := H.st.buf ht
  have e0 : (0 : Int) ≤ t := by omega
  have e1 : (t : Int) < n := by omega
  have e2 : (0 : Int) ≤ ad := by omega
  have e3 : (ad : Int) < nw := by omega
  clear H
  go_enter Try.func142, Try.ntmps142
  go_wp2_with fail
  go_loopg [7, 8] 0 (fun g9 v i wr => v = .int .i64 (S.w ad) ∧ i = .int .i64 0 ∧ wr = W)
  case atStart => exact ⟨rfl, rfl, rfl⟩
  case round =>
    obtain ⟨rfl, rfl, rfl⟩ := hrel
    have d1 : decide ((0 : Int) < 0) = false := rfl
    go_wp2_with fail
    go_ret
    exact ⟨rfl, rfl⟩
set_option maxRecDepth 100000 in
set_option maxHeartbeats 4000000 in
theorem rout_any (W : World) (gs : Nat) (h : SH) (n nw : Nat) (S : LS) (tt : TypeId) (xs : List Value) (H : HdAt W gs h n nw S tt xs) (t : Nat) (a : Int) (ht : t < n) :
    Calls Try.prog 141 #[.int .i64 1, .pointer (some ⟨gs, 0, none⟩), .int .i64 t, .int .i64 a] W (fun e w' => e = .returned (.bool false) ∧ w' = W) := by
  have s3 := H.s3
  have c1 : W.cell? ⟨h.gb, t, none⟩ = some (.slice none 0 0) := H.st.buf ht
  have e0 : (0 : Int) ≤ t := by omega
  have e1 : (t : Int) < n := by omega
  clear H
  go_enter Try.func141, Try.ntmps141
  go_wp2_with fail
  go_loopg [9] 0 (fun g9 i wr => i = .int .i64 0 ∧ wr = W)
  case atStart => exact ⟨rfl, rfl⟩
  case round =>
    obtain ⟨rfl, rfl⟩ := hrel
    have d1 : decide ((0 : Int) < 0) = false := rfl
    go_wp2_with fail
    go_ret
    exact ⟨rfl, rfl⟩

set_option maxRecDepth 100000 in
set_option maxHeartbeats 4000000 in
theorem rturn_no (l : Lit) (w : World) (B gs : Nat) (h : SH) (S : LS) (u : Tn) (tt : TypeId) (xs : List Value) (hl : LitAt w B l) (hBw : B ≤ w.heap.size) (hn : NewS B h) (hh : HdAt w gs h l.tn l.wn S tt xs) (hg : GoodS l S) (hok : okLit l = true) (hp : pickS l S u = none) :
    Calls Try.prog 124 #[litV l, .int .i64 1, .pointer (some ⟨gs, 0, none⟩), tnV u] w (BoolR false w) := by
  obtain ⟨n1, n2, n3, n4⟩ := okLit_num hok
  have HL := Lib.hid hl
  have HH := Lib.hid hh
  have HG := Lib.hid hg
  have HOk := Lib.hid hok
  have HP := Lib.hid hp
  have HNw := Lib.hid hn
  obtain ⟨tb, to', hta, htb, _⟩ := hl.heads n1
  clear hl hh hg hok hp hn
  obtain ⟨wA, wn, wk, ws, tA, tn, tk, th⟩ := l
  have hta' : tA = some ⟨tb, to', none⟩ := hta
  subst hta'
  clear hta
  dsimp only at n1 n2 n3 n4
  replace HH : Hid (HdAt w gs h tn wn S tt xs) := HH
  obtain ⟨ut, uo, ua⟩ := u
  by_cases h0 : ut < 0
  case pos =>
    have d1 : decide (ut < 0) = true := by simpa using h0
    obtain ⟨w0, hw0⟩ : ∃ w0 : World, w0 = (w.alloc (.cells #[.slice wA wn wk, .slice (some ⟨tb, to', none⟩) tn tk] 101)).alloc (.cells #[.int .i64 ut, .bool uo, .int .i64 ua] 131) := ⟨_, rfl⟩
    have HLb0 : Hid (Blk w0 w.heap.size 101 [.slice wA wn wk, .slice (some ⟨tb, to', none⟩) tn tk]) := by rw [hw0]; exact (Blk.new w 101 [.slice wA wn wk, .slice (some ⟨tb, to', none⟩) tn tk]).alloc _
    have HU0 : Hid (Blk w0 (w.heap.size + 1) 131 [.int .i64 ut, .bool uo, .int .i64 ua]) := by
      rw [hw0]
      have h9 := Blk.new (w.alloc (.cells #[.slice wA wn wk, .slice (some ⟨tb, to', none⟩) tn tk] 101)) 131 [.int .i64 ut, .bool uo, .int .i64 ua]
      rw [World.size_alloc] at h9
      exact h9
    have HW0 : Hid (Below w.heap.size w w0) := by rw [hw0]; exact ((Below.refl _ _).alloc (Nat.le_refl _) _).alloc (by simp) _
    have hz0 : w.heap.size + 1 < w0.heap.size := HU0.out.lt
    have HWe := Lib.hid hw0
    clear hw0
    go_enter Try.func124, Try.ntmps124
    go_upto_region 1 with fail
    rw [← HWe.out]
    clear HWe
    have HH0 := Lib.hid (HH.out.on HW0.out)
    have q1 : w0.cell? ⟨w.heap.size, 1, none⟩ = some (.slice (some ⟨tb, to', none⟩) tn tk) := HLb0.out.cell rfl
    have u0 : w0.cell? ⟨w.heap.size + 1, 0, none⟩ = some (.int .i64 ut) := HU0.out.cell rfl
    have u1 : w0.cell? ⟨w.heap.size + 1, 1, none⟩ = some (.bool uo) := HU0.out.cell rfl
    have u2 : w0.cell? ⟨w.heap.size + 1, 2, none⟩ = some (.int .i64 ua) := HU0.out.cell rfl
    go_wp2_with fail
    go_ret
    exact ⟨rfl, HW0.out⟩
  have d1 : decide (ut < 0) = false := by simpa using h0
  obtain ⟨t, rfl⟩ : ∃ t : Nat, ut = t := ⟨ut.toNat, by omega⟩
  by_cases h1 : tn ≤ t
  case pos =>
    have d2 : decide ((tn : Int) ≤ t) = true := by simp; omega
    have d3 : (tn : Int) ≤ t := by omega
    obtain ⟨w0, hw0⟩ : ∃ w0 : World, w0 = (w.alloc (.cells #[.slice wA wn wk, .slice (some ⟨tb, to', none⟩) tn tk] 101)).alloc (.cells #[.int .i64 t, .bool uo, .int .i64 ua] 131) := ⟨_, rfl⟩
    have HLb0 : Hid (Blk w0 w.heap.size 101 [.slice wA wn wk, .slice (some ⟨tb, to', none⟩) tn tk]) := by rw [hw0]; exact (Blk.new w 101 [.slice wA wn wk, .slice (some ⟨tb, to', none⟩) tn tk]).alloc _
    have HU0 : Hid (Blk w0 (w.heap.size + 1) 131 [.int .i64 t, .bool uo, .int .i64 ua]) := by
      rw [hw0]
      have h9 := Blk.new (w.alloc (.cells #[.slice wA wn wk, .slice (some ⟨tb, to', none⟩) tn tk] 101)) 131 [.int .i64 t, .bool uo, .int .i64 ua]
      rw [World.size_alloc] at h9
      exact h9
    have HW0 : Hid (Below w.heap.size w w0) := by rw [hw0]; exact ((Below.refl _ _).alloc (Nat.le_refl _) _).alloc (by simp) _
    have hz0 : w.heap.size + 1 < w0.heap.size := HU0.out.lt
    have HWe := Lib.hid hw0
    clear hw0
    go_enter Try.func124, Try.ntmps124
    go_upto_region 1 with fail
    rw [← HWe.out]
    clear HWe
    have HH0 := Lib.hid (HH.out.on HW0.out)
    have q1 : w0.cell? ⟨w.heap.size, 1, none⟩ = some (.slice (some ⟨tb, to', none⟩) tn tk) := HLb0.out.cell rfl
    have u0 : w0.cell? ⟨w.heap.size + 1, 0, none⟩ = some (.int .i64 t) := HU0.out.cell rfl
    have u1 : w0.cell? ⟨w.heap.size + 1, 1, none⟩ = some (.bool uo) := HU0.out.cell rfl
    have u2 : w0.cell? ⟨w.heap.size + 1, 2, none⟩ = some (.int .i64 ua) := HU0.out.cell rfl
    go_wp2_with fail
    go_ret
    exact ⟨rfl, HW0.out⟩
  have d2 : decide ((tn : Int) ≤ t) = false := by simp; omega
  have d3 : ¬ (tn : Int) ≤ t := by omega
  have hlt : t < tn := by omega
  have e0 : (0 : Int) ≤ t := by omega
  have e1 : (t : Int) < tn := by omega
  cases uo
  case true =>
    obtain ⟨w0, hw0⟩ : ∃ w0 : World, w0 = (w.alloc (.cells #[.slice wA wn wk, .slice (some ⟨tb, to', none⟩) tn tk] 101)).alloc (.cells #[.int .i64 t, .bool true, .int .i64 ua] 131) := ⟨_, rfl⟩
    have HLb0 : Hid (Blk w0 w.heap.size 101 [.slice wA wn wk, .slice (some ⟨tb, to', none⟩) tn tk]) := by rw [hw0]; exact (Blk.new w 101 [.slice wA wn wk, .slice (some ⟨tb, to', none⟩) tn tk]).alloc _
    have HU0 : Hid (Blk w0 (w.heap.size + 1) 131 [.int .i64 t, .bool true, .int .i64 ua]) := by
      rw [hw0]
      have h9 := Blk.new (w.alloc (.cells #[.slice wA wn wk, .slice (some ⟨tb, to', none⟩) tn tk] 101)) 131 [.int .i64 t, .bool true, .int .i64 ua]
      rw [World.size_alloc] at h9
      exact h9
    have HW0 : Hid (Below w.heap.size w w0) := by rw [hw0]; exact ((Below.refl _ _).alloc (Nat.le_refl _) _).alloc (by simp) _
    have hz0 : w.heap.size + 1 < w0.heap.size := HU0.out.lt
    have HWe := Lib.hid hw0
    clear hw0
    go_enter Try.func124, Try.ntmps124
    go_upto_region 1 with fail
    rw [← HWe.out]
    clear HWe
    have HH0 := Lib.hid (HH.out.on HW0.out)
    have q1 : w0.cell? ⟨w.heap.size, 1, none⟩ = some (.slice (some ⟨tb, to', none⟩) tn tk) := HLb0.out.cell rfl
    have u0 : w0.cell? ⟨w.heap.size + 1, 0, none⟩ = some (.int .i64 t) := HU0.out.cell rfl
    have u1 : w0.cell? ⟨w.heap.size + 1, 1, none⟩ = some (.bool true) := HU0.out.cell rfl
    have u2 : w0.cell? ⟨w.heap.size + 1, 2, none⟩ = some (.int .i64 ua) := HU0.out.cell rfl
    go_wp2_with fail
    refine (rout_any w0 gs h tn wn S tt xs HH0.out t ua hlt).mono ?_
    rintro e w1 ⟨rfl, rfl⟩
    go_wp2_with fail
    go_ret
    exact ⟨rfl, HW0.out⟩
  obtain ⟨w0, hw0⟩ : ∃ w0 : World, w0 = (w.alloc (.cells #[.slice wA wn wk, .slice (some ⟨tb, to', none⟩) tn tk] 101)).alloc (.cells #[.int .i64 t, .bool false, .int .i64 ua] 131) := ⟨_, rfl⟩
  have HLb0 : Hid (Blk w0 w.heap.size 101 [.slice wA wn wk, .slice (some ⟨tb, to', none⟩) tn tk]) := by rw [hw0]; exact (Blk.new w 101 [.slice wA wn wk, .slice (some ⟨tb, to', none⟩) tn tk]).alloc _
  have HU0 : Hid (Blk w0 (w.heap.size + 1) 131 [.int .i64 t, .bool false, .int .i64 ua]) := by
    rw [hw0]
    have h9 := Blk.new (w.alloc (.cells #[.slice wA wn wk, .slice (some ⟨tb, to', none⟩) tn tk] 101)) 131 [.int .i64 t, .bool false, .int .i64 ua]
    rw [World.size_alloc] at h9
    exact h9
  have HW0 : Hid (Below w.heap.size w w0) := by rw [hw0]; exact ((Below.refl _ _).alloc (Nat.le_refl _) _).alloc (by simp) _
  have hz0 : w.heap.size + 1 < w0.heap.size := HU0.out.lt
  have HWe := Lib.hid hw0
  clear hw0
  go_enter Try.func124, Try.ntmps124
  go_upto_region 1 with fail
  rw [← HWe.out]
  clear HWe
  have HH0 := Lib.hid (HH.out.on HW0.out)
  have q1 : w0.cell? ⟨w.heap.size, 1, none⟩ = some (.slice (some ⟨tb, to', none⟩) tn tk) := HLb0.out.cell rfl
  have u0 : w0.cell? ⟨w.heap.size + 1, 0, none⟩ = some (.int .i64 t) := HU0.out.cell rfl
  have u1 : w0.cell? ⟨w.heap.size + 1, 1, none⟩ = some (.bool false) := HU0.out.cell rfl
  have u2 : w0.cell? ⟨w.heap.size + 1, 2, none⟩ = some (.int .i64 ua) := HU0.out.cell rfl
  obtain ⟨x, hx⟩ := at_lt (show t < th.length by have := HL.out.tlen; dsimp only at this; omega)
  have hL := HL.out.keep (HW0.out.mono hBw)
  obtain ⟨tb2, to2, hta2, htb2, htc⟩ := hL.head hx
  injection hta2 with hta2
  injection hta2 with e1' e2'
  subst e1' e2'
  have hcl := hL.clen (List.mem_of_getElem? hx)
  have hco := (hL.code x (List.mem_of_getElem? hx)).2.1
  have hn1 := hco.1
  have hn2 := hco.2
  unfold maxLen at hn2
  have h10 := (okLit_code HOk.out hx).1
  have HX := Lib.hid hx
  have HCl := Lib.hid hcl
  have hle := HG.out.le t hlt
  rw [codeOf_at hx, hcl] at hle
  clear hx hco hcl
  obtain ⟨⟨xA, xn, xk⟩, code⟩ := x
  dsimp only at hn1 hn2 htc h10 hle
  have hpt := HH0.out.st.place (LS.p_at (S := S) (t := t) (by rw [HH.out.st.plen]; exact hlt))
  have s2 := HH0.out.s2
  have hge : xn ≤ S.p t := by
    have h9 := HP.out
    unfold pickS at h9
    dsimp only at h9
    rw [if_pos ⟨e0, e1, rfl⟩, Int.toNat_natCast, codeOf_at HX.out, List.getElem?_eq_none_iff] at h9
    have := HCl.out
    dsimp only at h9 this
    omega
  have d4 : ((S.p t : Int) == (xn : Int)) = true := by simp; omega
  have d5 : (S.p t : Int) = (xn : Int) := by omega
  have d6 : S.p t = xn := by omega
  go_upto_region 6 with fail
  go_quiet (fail)
  go_wp2_with fail
  go_ret
  exact ⟨rfl, HW0.out.trans ((Below.refl _ _).drewN _)⟩
theorem w64' (z : Int) : wrap64 z = IntKind.i64.wrap z := by simp only [wrap64, IntKind.wrap_i64]
theorem okIns_kind {nw : Nat} {x : Ins} (h9 : okIns nw x = true) : x.kind = 1 ∨ x.kind = 2 ∨ x.kind = 3 ∨ x.kind = 4 ∨ x.kind = 5 ∨ x.kind = 6 ∨ x.kind = 7 := by
  unfold okIns at h9
  by_cases k1 : x.kind = 1 ∨ x.kind = 3
  · omega
  · rw [if_neg k1] at h9
    by_cases k2 : x.kind = 2
    · omega
    · rw [if_neg k2] at h9
      by_cases k3 : x.kind = 4
      · omega
      · rw [if_neg k3] at h9
        by_cases k4 : x.kind = 5 ∨ x.kind = 6
        · omega
        · rw [if_neg k4] at h9
          by_cases k5 : x.kind = 7
          · omega
          · rw [if_neg k5] at h9
            cases h9

theorem effS_ps (S : LS) (t : Nat) (x : Ins) : (effS S t x).ps = S.ps := by
  unfold effS
  repeat' split
  all_goals rfl
/-- a turn's end in the reference: the place is put further -/
theorem rt_end {w V : World} {gs : Nat} {h : SH} {n nw : Nat} {S S1 S2 : LS} {t c : Nat} {x : Ins} {tt : TypeId} {xs : List Value} {v : Int} {k : Nat} (HH : HdAt V gs h n nw S1 tt xs) (HF : Fr (SF h) w V) (hT : S2 = nextS S t c x) (he : effS S t x = S1) (hk : skipS S t x = k) (hv : v = ((min (S.p t + k + 1) c : Nat) : Int)) :
    WkR h n nw S2 true w (.returned (.bool true)) (V.setCell ⟨h.gp, t, none⟩ (.int .i64 v)).drew := by
  subst hv
  have h8 := HH.st.setP t (min (S.p t + k + 1) c)
  rw [hT]
  unfold nextS
  rw [hk]
  have hp : S1.ps = S.ps := by rw [← he]; exact effS_ps S t x
  rw [hp] at h8
  rw [he]
  exact ⟨rfl, h8.on (Below.refl _ _).drew, (HF.setCell (Or.inr (Or.inr rfl)) _).drew⟩

set_option maxRecDepth 100000 in
set_option maxHeartbeats 8000000 in
theorem rturn_yes (l : Lit) (w : World) (B gs : Nat) (h : SH) (S : LS) (u : Tn) (tt : TypeId) (xs : List Value) (x9 : Ins) (hl : LitAt w B l) (hBw : B ≤ w.heap.size) (hn : NewS B h) (hh : HdAt w gs h l.tn l.wn S tt xs) (hg : GoodS l S) (hok : okLit l = true) (hp : pickS l S u = some x9) :
    Calls Try.prog 124 #[litV l, .int .i64 1, .pointer (some ⟨gs, 0, none⟩), tnV u] w (WkR h l.tn l.wn (turnS l S u) true w) := by
  have HTS := Lib.hid (show turnS l S u = nextS S u.t.toNat (codeOf l u.t.toNat).length x9 by unfold turnS; rw [hp])
  obtain ⟨n1, n2, n3, n4⟩ := okLit_num hok
  have HL := Lib.hid hl
  have HH := Lib.hid hh
  have HG := Lib.hid hg
  have HOk := Lib.hid hok
  have HP := Lib.hid hp
  have HNw := Lib.hid hn
  obtain ⟨tb, to', hta, htb, _⟩ := hl.heads n1
  clear hl hh hg hok hp hn
  obtain ⟨wA, wn, wk, ws, tA, tn, tk, th⟩ := l
  have hta' : tA = some ⟨tb, to', none⟩ := hta
  subst hta'
  clear hta
  dsimp only at n1 n2 n3 n4
  replace HH : Hid (HdAt w gs h tn wn S tt xs) := HH
  obtain ⟨ut, uo, ua⟩ := u
  have hr : (0 ≤ ut ∧ ut < (tn : Int) ∧ uo = false) := by
    have h9 := HP.out
    unfold pickS at h9
    dsimp only at h9
    by_cases hc : 0 ≤ ut ∧ ut < (tn : Int) ∧ uo = false
    · exact hc
    · rw [if_neg hc] at h9
      cases h9
  obtain ⟨hr1, hr2, rfl⟩ := hr
  obtain ⟨t, rfl⟩ : ∃ t : Nat, ut = t := ⟨ut.toNat, by omega⟩
  have hlt : t < tn := by omega
  have e0 : (0 : Int) ≤ t := by omega
  have e1 : (t : Int) < tn := by omega
  have d1 : decide ((t : Int) < 0) = false := by simp
  have d2 : decide ((tn : Int) ≤ t) = false := by simp; omega
  have d3 : ¬ (tn : Int) ≤ t := by omega
  obtain ⟨w0, hw0⟩ : ∃ w0 : World, w0 = (w.alloc (.cells #[.slice wA wn wk, .slice (some ⟨tb, to', none⟩) tn tk] 101)).alloc (.cells #[.int .i64 t, .bool false, .int .i64 ua] 131) := ⟨_, rfl⟩
  have HLb0 : Hid (Blk w0 w.heap.size 101 [.slice wA wn wk, .slice (some ⟨tb, to', none⟩) tn tk]) := by rw [hw0]; exact (Blk.new w 101 [.slice wA wn wk, .slice (some ⟨tb, to', none⟩) tn tk]).alloc _
  have HU0 : Hid (Blk w0 (w.heap.size + 1) 131 [.int .i64 t, .bool false, .int .i64 ua]) := by
    rw [hw0]
    have h9 := Blk.new (w.alloc (.cells #[.slice wA wn wk, .slice (some ⟨tb, to', none⟩) tn tk] 101)) 131 [.int .i64 t, .bool false, .int .i64 ua]
    rw [World.size_alloc] at h9
    exact h9
  have HW0 : Hid (Below w.heap.size w w0) := by rw [hw0]; exact ((Below.refl _ _).alloc (Nat.le_refl _) _).alloc (by simp) _
  have hz0 : w.heap.size + 1 < w0.heap.size := HU0.out.lt
  have HWe := Lib.hid hw0
  clear hw0
  go_enter Try.func124, Try.ntmps124
  go_upto_region 1 with fail
  rw [← HWe.out]
  clear HWe
  have HH0 := Lib.hid (HH.out.on HW0.out)
  have q1 : w0.cell? ⟨w.heap.size, 1, none⟩ = some (.slice (some ⟨tb, to', none⟩) tn tk) := HLb0.out.cell rfl
  have u0 : w0.cell? ⟨w.heap.size + 1, 0, none⟩ = some (.int .i64 t) := HU0.out.cell rfl
  have u1 : w0.cell? ⟨w.heap.size + 1, 1, none⟩ = some (.bool false) := HU0.out.cell rfl
  have u2 : w0.cell? ⟨w.heap.size + 1, 2, none⟩ = some (.int .i64 ua) := HU0.out.cell rfl
  obtain ⟨x, hx⟩ := at_lt (show t < th.length by have := HL.out.tlen; dsimp only at this; omega)
  have hL := HL.out.keep (HW0.out.mono hBw)
  obtain ⟨tb2, to2, hta2, htb2, htc⟩ := hL.head hx
  injection hta2 with hta2
  injection hta2 with e1' e2'
  subst e1' e2'
  have hcl := hL.clen (List.mem_of_getElem? hx)
  have hco := (hL.code x (List.mem_of_getElem? hx)).2.1
  have hn1 := hco.1
  have hn2 := hco.2
  unfold maxLen at hn2
  have h10 := (okLit_code HOk.out hx).1
  have HX := Lib.hid hx
  have HCl := Lib.hid hcl
  have hle := HG.out.le t hlt
  rw [codeOf_at hx, hcl] at hle
  clear hx hco hcl
  obtain ⟨⟨xA, xn, xk⟩, code⟩ := x
  dsimp only at hn1 hn2 htc h10 hle
  have hpt := HH0.out.st.place (LS.p_at (S := S) (t := t) (by rw [HH.out.st.plen]; exact hlt))
  have s2 := HH0.out.s2
  have hp9 : code[S.p t]? = some x9 := by
    have h9 := HP.out
    unfold pickS at h9
    dsimp only at h9
    rwa [if_pos ⟨hr1, hr2, rfl⟩, Int.toNat_natCast, codeOf_at HX.out] at h9
  have hlt2 : S.p t < xn := by
    have := HCl.out
    have := (List.getElem?_eq_some_iff.1 hp9).1
    dsimp only at *
    omega
  have HTS2 : Hid (turnS ⟨wA, wn, wk, ws, some ⟨tb, to', none⟩, tn, tk, th⟩ S ⟨t, false, ua⟩ = nextS S t xn x9) := by
    have h9 := HTS.out
    rw [h9]
    dsimp only
    rw [Int.toNat_natCast, codeOf_at HX.out]
    have := HCl.out
    dsimp only at this
    rw [← this]
    exact Lib.hid rfl
  clear HTS
  have hok9 := (okLit_code HOk.out HX.out).2 x9 (List.mem_of_getElem? hp9)
  obtain ⟨cb, co, hca, hcb, hc⟩ := ins_cell (hL.code _ (List.mem_of_getElem? HX.out)).1 hp9
  have hca' : xA = some ⟨cb, co, none⟩ := hca
  subst hca'
  have HHd : Hid (∀ V, Below B w V → V.cell? ⟨tb, to' + t, none⟩ = some (.slice (some ⟨cb, co, none⟩) xn xk)) := fun V hV => by
    obtain ⟨tb3, to3, hta3, _, htc3⟩ := (HL.out.keep hV).head HX.out
    injection hta3 with hta3
    injection hta3 with e1' e2'
    subst e1' e2'
    exact htc3
  have hsf : ∀ q, SF h q → B ≤ q := by
    have := HNw.out
    rintro q (e | e | e)
    · rw [e]; exact this.1
    · rw [e]; exact this.2.1
    · rw [e]; exact this.2.2.1
  have hgw : h.gw < w.heap.size := HH.out.st.w.lt
  have hgr : h.gr < w.heap.size := HH.out.st.r.lt
  have hgp : h.gp < w.heap.size := HH.out.st.p.lt
  have HOk9 : Hid (okIns wn x9 = true) := hok9
  clear hca hp9 hok9
  obtain ⟨kd, rg, ad, vl, sr, od, ct⟩ := x9
  have c0 := hc.c0
  have c1 := hc.c1
  have c2 := hc.c2
  have c3 := hc.c3
  have c4 := hc.c4
  have c5 := hc.c5
  have c6 := hc.c6
  dsimp only at c0 c1 c2 c3 c4 c5 c6
  clear hc
  have d4 : ((S.p t : Int) == (xn : Int)) = false := by simp; omega
  have d5 : ¬ (S.p t : Int) = (xn : Int) := by omega
  have d6 : ¬ S.p t = xn := by omega
  have f0 : (0 : Int) ≤ S.p t := by omega
  have f1 : (S.p t : Int) < xn := by omega
  have hSc : w0.cell? ⟨w.heap.size, 1, none⟩ = some (.slice (some ⟨tb, to', none⟩) tn tk) ∧ w0.cell? ⟨tb, to' + t, none⟩ = some (.slice (some ⟨cb, co, none⟩) xn xk) ∧ w0.cell? ⟨gs, 2, none⟩ = some (.slice (some ⟨h.gp, 0, none⟩) tn h.kp) ∧ w0.cell? ⟨h.gp, t, none⟩ = some (.int .i64 (S.p t)) ∧ w0.cell? ⟨cb, co + S.p t * 7, none⟩ = some (.int .i64 kd) ∧ w0.cell? ⟨cb, co + S.p t * 7 + 1, none⟩ = some (.int .i64 rg) ∧ w0.cell? ⟨cb, co + S.p t * 7 + 2, none⟩ = some (.int .i64 ad) ∧ w0.cell? ⟨cb, co + S.p t * 7 + 3, none⟩ = some (.int .i64 vl) ∧ w0.cell? ⟨cb, co + S.p t * 7 + 4, none⟩ = some (.int .i64 sr) ∧ w0.cell? ⟨cb, co + S.p t * 7 + 5, none⟩ = some (.int .i64 od) ∧ w0.cell? ⟨cb, co + S.p t * 7 + 6, none⟩ = some (.int .i64 ct) := ⟨q1, htc, s2, hpt, c0, c1, c2, c3, c4, c5, c6⟩
  have HSo : Hid (∀ W, Below w0.heap.size w0 W → W.cell? ⟨w.heap.size, 1, none⟩ = some (.slice (some ⟨tb, to', none⟩) tn tk) ∧ W.cell? ⟨tb, to' + t, none⟩ = some (.slice (some ⟨cb, co, none⟩) xn xk) ∧ W.cell? ⟨gs, 2, none⟩ = some (.slice (some ⟨h.gp, 0, none⟩) tn h.kp) ∧ W.cell? ⟨h.gp, t, none⟩ = some (.int .i64 (S.p t)) ∧ W.cell? ⟨cb, co + S.p t * 7, none⟩ = some (.int .i64 kd) ∧ W.cell? ⟨cb, co + S.p t * 7 + 1, none⟩ = some (.int .i64 rg) ∧ W.cell? ⟨cb, co + S.p t * 7 + 2, none⟩ = some (.int .i64 ad) ∧ W.cell? ⟨cb, co + S.p t * 7 + 3, none⟩ = some (.int .i64 vl) ∧ W.cell? ⟨cb, co + S.p t * 7 + 4, none⟩ = some (.int .i64 sr) ∧ W.cell? ⟨cb, co + S.p t * 7 + 5, none⟩ = some (.int .i64 od) ∧ W.cell? ⟨cb, co + S.p t * 7 + 6, none⟩ = some (.int .i64 ct)) := fun W hW => by
    obtain ⟨a0, a1, a2, a3, a4, a5, a6, a7, a8, a9, a10⟩ := hSc
    have k : ∀ (a : Addr) (v : Value), w0.cell? a = some v → W.cell? a = some v := fun a v hv => (hW.cell (World.block_lt_of_cell? w0 a hv)).trans hv
    exact ⟨k _ _ a0, k _ _ a1, k _ _ a2, k _ _ a3, k _ _ a4, k _ _ a5, k _ _ a6, k _ _ a7, k _ _ a8, k _ _ a9, k _ _ a10⟩
  clear hSc c0 c1 c2 c3 c4 c5 c6
  go_upto_region 6 with fail
  go_quiet (fail)
  obtain ⟨w1, hw1, hb1⟩ : ∃ Z9, Z9 = w0.drewN nq ∧ Below w0.heap.size w0 Z9 := ⟨_, rfl, (Below.refl _ _).drewN _⟩
  rw [← hw1]
  have HB1 := Lib.hid hb1
  clear hw1 hb1 q1 u0 u1 u2 htc hpt s2
  go_upto_region 8 with fail
  refine wp_region_held_drew (S := fun W => W.cell? ⟨w.heap.size, 1, none⟩ = some (.slice (some ⟨tb, to', none⟩) tn tk) ∧ W.cell? ⟨tb, to' + t, none⟩ = some (.slice (some ⟨cb, co, none⟩) xn xk) ∧ W.cell? ⟨gs, 2, none⟩ = some (.slice (some ⟨h.gp, 0, none⟩) tn h.kp) ∧ W.cell? ⟨h.gp, t, none⟩ = some (.int .i64 (S.p t)) ∧ W.cell? ⟨cb, co + S.p t * 7, none⟩ = some (.int .i64 kd) ∧ W.cell? ⟨cb, co + S.p t * 7 + 1, none⟩ = some (.int .i64 rg) ∧ W.cell? ⟨cb, co + S.p t * 7 + 2, none⟩ = some (.int .i64 ad) ∧ W.cell? ⟨cb, co + S.p t * 7 + 3, none⟩ = some (.int .i64 vl) ∧ W.cell? ⟨cb, co + S.p t * 7 + 4, none⟩ = some (.int .i64 sr) ∧ W.cell? ⟨cb, co + S.p t * 7 + 5, none⟩ = some (.int .i64 od) ∧ W.cell? ⟨cb, co + S.p t * 7 + 6, none⟩ = some (.int .i64 ct)) (by kernel_rfl) (HSo.out _ HB1.out.drew) (fun hS => ?_)
  refine wpAnyH_take (i := 0) (v := .pointer (some ⟨w.heap.size, 1, none⟩)) rfl (by kernel_rfl) (by kernel_rfl) (by kernel_rfl) (fun _ _ _ h => h) (Or.inl ⟨by rfl, ?_⟩) (by assumption) ?_
  · (intro W hSw; (try dsimp only at hSw); go_simp)
  show wpAnyH _ _ _ _ _ _ _ (Act.put _ (some 46) _) _
  simp only [Act.put, List.setIfInBounds_toArray, List.set_cons_zero, List.set_cons_succ]
  refine wpAnyH_take (i := 1) (v := .slice (some ⟨tb, to', none⟩) tn tk) rfl (by kernel_rfl) (by kernel_rfl) (by kernel_rfl) (fun _ _ _ h => h) (Or.inl ⟨by rfl, ?_⟩) (by assumption) ?_
  · (intro W hSw; (try dsimp only at hSw); go_simp)
  show wpAnyH _ _ _ _ _ _ _ (Act.put _ (some 47) _) _
  simp only [Act.put, List.setIfInBounds_toArray, List.set_cons_zero, List.set_cons_succ]
  refine wpAnyH_take (i := 2) (v := .int .i64 t) rfl (by kernel_rfl) (by kernel_rfl) (by kernel_rfl) (fun _ _ _ h => h) (Or.inl ⟨by rfl, ?_⟩) (by assumption) ?_
  · (intro W hSw; (try dsimp only at hSw); go_simp)
  show wpAnyH _ _ _ _ _ _ _ (Act.put _ (some 48) _) _
  simp only [Act.put, List.setIfInBounds_toArray, List.set_cons_zero, List.set_cons_succ]
  refine wpAnyH_take (i := 3) (v := .pointer (some ⟨tb, to' + t, none⟩)) rfl (by kernel_rfl) (by kernel_rfl) (by kernel_rfl) (fun _ _ _ h => h) (Or.inl ⟨by rfl, ?_⟩) (by assumption) ?_
  · (intro W hSw; (try dsimp only at hSw); go_simp)
  show wpAnyH _ _ _ _ _ _ _ (Act.put _ (some 49) _) _
  simp only [Act.put, List.setIfInBounds_toArray, List.set_cons_zero, List.set_cons_succ]
  refine wpAnyH_take (i := 4) (v := .slice (some ⟨cb, co, none⟩) xn xk) rfl (by kernel_rfl) (by kernel_rfl) (by kernel_rfl) (fun _ _ _ h => h) (Or.inl ⟨by rfl, ?_⟩) (by assumption) ?_
  · (intro W hSw; (try dsimp only at hSw); go_simp)
  show wpAnyH _ _ _ _ _ _ _ (Act.put _ (some 50) _) _
  simp only [Act.put, List.setIfInBounds_toArray, List.set_cons_zero, List.set_cons_succ]
  refine wpAnyH_take (i := 5) (v := .pointer (some ⟨gs, 0, none⟩)) rfl (by kernel_rfl) (by kernel_rfl) (by kernel_rfl) (fun _ _ _ h => h) (Or.inl ⟨by rfl, ?_⟩) (by assumption) ?_
  · (intro W hSw; (try dsimp only at hSw); go_simp)
  show wpAnyH _ _ _ _ _ _ _ (Act.put _ (some 51) _) _
  simp only [Act.put, List.setIfInBounds_toArray, List.set_cons_zero, List.set_cons_succ]
  refine wpAnyH_take (i := 6) (v := .pointer (some ⟨gs, 0, none⟩)) rfl (by kernel_rfl) (by kernel_rfl) (by kernel_rfl) (fun _ _ _ h => h) (Or.inl ⟨by rfl, ?_⟩) (by assumption) ?_
  · (intro W hSw; (try dsimp only at hSw); go_simp)
  show wpAnyH _ _ _ _ _ _ _ (Act.put _ (some 52) _) _
  simp only [Act.put, List.setIfInBounds_toArray, List.set_cons_zero, List.set_cons_succ]
  refine wpAnyH_take (i := 7) (v := .pointer (some ⟨gs, 2, none⟩)) rfl (by kernel_rfl) (by kernel_rfl) (by kernel_rfl) (fun _ _ _ h => h) (Or.inl ⟨by rfl, ?_⟩) (by assumption) ?_
  · (intro W hSw; (try dsimp only at hSw); go_simp)
  show wpAnyH _ _ _ _ _ _ _ (Act.put _ (some 53) _) _
  simp only [Act.put, List.setIfInBounds_toArray, List.set_cons_zero, List.set_cons_succ]
  refine wpAnyH_take (i := 8) (v := .slice (some ⟨h.gp, 0, none⟩) tn h.kp) rfl (by kernel_rfl) (by kernel_rfl) (by kernel_rfl) (fun _ _ _ h => h) (Or.inl ⟨by rfl, ?_⟩) (by assumption) ?_
  · (intro W hSw; (try dsimp only at hSw); go_simp)
  show wpAnyH _ _ _ _ _ _ _ (Act.put _ (some 54) _) _
  simp only [Act.put, List.setIfInBounds_toArray, List.set_cons_zero, List.set_cons_succ]
  refine wpAnyH_take (i := 9) (v := .int .i64 t) rfl (by kernel_rfl) (by kernel_rfl) (by kernel_rfl) (fun _ _ _ h => h) (Or.inl ⟨by rfl, ?_⟩) (by assumption) ?_
  · (intro W hSw; (try dsimp only at hSw); go_simp)
  show wpAnyH _ _ _ _ _ _ _ (Act.put _ (some 55) _) _
  simp only [Act.put, List.setIfInBounds_toArray, List.set_cons_zero, List.set_cons_succ]
  refine wpAnyH_take (i := 10) (v := .pointer (some ⟨h.gp, t, none⟩)) rfl (by kernel_rfl) (by kernel_rfl) (by kernel_rfl) (fun _ _ _ h => h) (Or.inl ⟨by rfl, ?_⟩) (by assumption) ?_
  · (intro W hSw; (try dsimp only at hSw); go_simp)
  show wpAnyH _ _ _ _ _ _ _ (Act.put _ (some 56) _) _
  simp only [Act.put, List.setIfInBounds_toArray, List.set_cons_zero, List.set_cons_succ]
  refine wpAnyH_take (i := 11) (v := .int .i64 (S.p t)) rfl (by kernel_rfl) (by kernel_rfl) (by kernel_rfl) (fun _ _ _ h => h) (Or.inl ⟨by rfl, ?_⟩) (by assumption) ?_
  · (intro W hSw; (try dsimp only at hSw); go_simp)
  show wpAnyH _ _ _ _ _ _ _ (Act.put _ (some 57) _) _
  simp only [Act.put, List.setIfInBounds_toArray, List.set_cons_zero, List.set_cons_succ]
  refine wpAnyH_take (i := 12) (v := .pointer (some ⟨cb, co + S.p t * 7, none⟩)) rfl (by kernel_rfl) (by kernel_rfl) (by kernel_rfl) (fun _ _ _ h => h) (Or.inl ⟨by rfl, ?_⟩) (by assumption) ?_
  · (intro W hSw; (try dsimp only at hSw); go_simp)
  show wpAnyH _ _ _ _ _ _ _ (Act.put _ (some 58) _) _
  simp only [Act.put, List.setIfInBounds_toArray, List.set_cons_zero, List.set_cons_succ]
  refine wpAnyH_take (i := 13) (v := .agg #[.int .i64 kd, .int .i64 rg, .int .i64 ad, .int .i64 vl, .int .i64 sr, .int .i64 od, .int .i64 ct]) rfl (by kernel_rfl) (by kernel_rfl) (by kernel_rfl) (fun _ _ _ h => h) (Or.inl ⟨by rfl, ?_⟩) (by assumption) ?_
  · (intro W hSw; (try dsimp only at hSw); go_simp)
  show wpAnyH _ _ _ _ _ _ _ (Act.put _ (some 59) _) _
  simp only [Act.put, List.setIfInBounds_toArray, List.set_cons_zero, List.set_cons_succ]
  obtain ⟨V, hV9, HVb⟩ : ∃ Z9, Z9 = w1.drew ∧ Hid (Below w0.heap.size w0 Z9) := ⟨_, rfl, HB1.out.drew⟩
  rw [← hV9]
  clear hV9
  refine wpAnyH_ready (rs := [14]) (by kernel_rfl) (by simp) (AllReadyH.cons rfl (fun K1 hK1 => ?_) (AllReadyH.nil))
  rw [if_pos (by rfl)]
  go_simp
  refine hK1.out _ _ (HSo.out _ (HVb.out.alloc HVb.out.size _)) (fun _ => ?_)
  refine wpAnyH_ready (rs := [15]) (by kernel_rfl) (by simp) (AllReadyH.cons rfl (fun K2 hK2 => ?_) (AllReadyH.nil))
  rw [if_pos (by rfl)]
  have hx4 : Blk (V.alloc (.cells #[.int .i64 0, .int .i64 0, .int .i64 0, .int .i64 0, .int .i64 0, .int .i64 0, .int .i64 0] 204)) V.heap.size 204 [.int .i64 0, .int .i64 0, .int .i64 0, .int .i64 0, .int .i64 0, .int .i64 0, .int .i64 0] := Blk.new V 204 [.int .i64 0, .int .i64 0, .int .i64 0, .int .i64 0, .int .i64 0, .int .i64 0, .int .i64 0]
  refine wp_store_row _ _ _ rfl V.heap.size #[.int .i64 kd, .int .i64 rg, .int .i64 ad, .int .i64 vl, .int .i64 sr, .int .i64 od, .int .i64 ct] rfl rfl 204 _ hx4 size_lin rfl (lin_one _ _ _ _ _ _ _) ?_
  have hb4 : Below w0.heap.size w0 ((V.alloc (.cells #[.int .i64 0, .int .i64 0, .int .i64 0, .int .i64 0, .int .i64 0, .int .i64 0, .int .i64 0] 204)).setRow V.heap.size #[.int .i64 kd, .int .i64 rg, .int .i64 ad, .int .i64 vl, .int .i64 sr, .int .i64 od, .int .i64 ct]) := rowB (HVb.out.alloc HVb.out.size _) HVb.out.size
  refine hK2.out _ _ (HSo.out _ hb4) (fun _ => ?_)
  refine wpAnyH_done (by kernel_rfl) ?_ _
  obtain ⟨gi, hgi⟩ : ∃ gi, gi = V.heap.size := ⟨_, rfl⟩
  obtain ⟨A, hA, HIA, hbA⟩ : ∃ Z9, Z9 = (V.alloc (.cells #[.int .i64 0, .int .i64 0, .int .i64 0, .int .i64 0, .int .i64 0, .int .i64 0, .int .i64 0] 204)).setRow V.heap.size #[.int .i64 kd, .int .i64 rg, .int .i64 ad, .int .i64 vl, .int .i64 sr, .int .i64 od, .int .i64 ct] ∧ Hid (Blk Z9 gi 204 [.int .i64 kd, .int .i64 rg, .int .i64 ad, .int .i64 vl, .int .i64 sr, .int .i64 od, .int .i64 ct]) ∧ Below w0.heap.size w0 Z9 := ⟨_, rfl, by rw [hgi]; exact setRow_heap _ _ _ #[.int .i64 kd, .int .i64 rg, .int .i64 ad, .int .i64 vl, .int .i64 sr, .int .i64 od, .int .i64 ct] _ _ hx4, hb4⟩
  rw [← hA, ← hgi]
  have hgil : w.heap.size < gi := by have := HVb.out.size; omega
  have HHA := Lib.hid (HH0.out.on hbA)
  have HLA := Lib.hid (HLb0.out.below hbA HLb0.out.lt)
  have HFA : Hid (Fr (SF h) w A) := Fr.of (HW0.out.trans (hbA.mono HW0.out.size))
  clear hA hx4 hb4 hS HSo hgi HVb HB1 hbA HH0 HLb0 HU0 HW0 hL
  have i0 : A.cell? ⟨gi, 0, none⟩ = some (.int .i64 kd) := HIA.out.cell rfl
  go_upto_region 11 with fail
  clear i0
  have hkk : kd = 1 ∨ kd = 2 ∨ kd = 3 ∨ kd = 4 ∨ kd = 5 ∨ kd = 6 ∨ kd = 7 := okIns_kind HOk9.out
  rcases hkk with rfl | rfl | rfl | rfl | rfl | rfl | rfl
  · have h9 := HOk9.out
    unfold okIns at h9
    rw [if_pos (by simp)] at h9
    rw [Bool.and_eq_true] at h9
    obtain ⟨rgn, hrg, hrg4⟩ := reg_of (h9.1)
    dsimp only at hrg
    subst hrg
    obtain ⟨adn, ha, had⟩ := adr_of (h9.2)
    dsimp only at ha
    subst ha
    clear h9
    have g0 : (0 : Int) ≤ rgn := by omega
    have g1 : (rgn : Int) < 4 := by omega
    have g2 : (0 : Int) ≤ adn := by omega
    have g3 : (adn : Int) < wn := by omega
    have s1 := HHA.out.s1
    have i1 : A.cell? ⟨gi, 1, none⟩ = some (.int .i64 rgn) := HIA.out.cell rfl
    have i2 : A.cell? ⟨gi, 2, none⟩ = some (.int .i64 adn) := HIA.out.cell rfl
    go_upto_region 12 with fail
    obtain ⟨C, hC, HHC, HFC, HLC, HIC⟩ : ∃ Z9, Z9 = A.drew ∧ Hid (HdAt Z9 gs h tn wn S tt xs) ∧ Hid (Fr (SF h) w Z9) ∧ Hid (Blk Z9 w.heap.size 101 [.slice wA wn wk, .slice (some ⟨tb, to', none⟩) tn tk]) ∧ Hid (Blk Z9 gi 204 [.int .i64 1, .int .i64 rgn, .int .i64 adn, .int .i64 vl, .int .i64 sr, .int .i64 od, .int .i64 ct]) := ⟨_, rfl, HHA.out.on (Below.refl _ _).drew, HFA.out.drew, HLA.out, HIA.out⟩
    refine wp_region_held_drew (S := fun W => W.cell? ⟨gs, 1, none⟩ = some (.slice (some ⟨h.gr, 0, none⟩) tn h.kr) ∧ W.cell? ⟨gi, 1, none⟩ = some (.int .i64 rgn) ∧ W.cell? ⟨gi, 2, none⟩ = some (.int .i64 adn)) (by kernel_rfl) ⟨s1, i1, i2⟩ (fun hS => ?_)
    refine wpAnyH_take (i := 0) (v := .pointer (some ⟨gs, 0, none⟩)) rfl (by kernel_rfl) (by kernel_rfl) (by kernel_rfl) (fun _ _ _ h => h) (Or.inl ⟨by rfl, ?_⟩) (by assumption) ?_
    · (intro W hSw; (try dsimp only at hSw); go_simp)
    show wpAnyH _ _ _ _ _ _ _ (Act.put _ (some 64) _) _
    simp only [Act.put, List.setIfInBounds_toArray, List.set_cons_zero, List.set_cons_succ]
    refine wpAnyH_take (i := 1) (v := .pointer (some ⟨gs, 0, none⟩)) rfl (by kernel_rfl) (by kernel_rfl) (by kernel_rfl) (fun _ _ _ h => h) (Or.inl ⟨by rfl, ?_⟩) (by assumption) ?_
    · (intro W hSw; (try dsimp only at hSw); go_simp)
    show wpAnyH _ _ _ _ _ _ _ (Act.put _ (some 65) _) _
    simp only [Act.put, List.setIfInBounds_toArray, List.set_cons_zero, List.set_cons_succ]
    refine wpAnyH_take (i := 2) (v := .pointer (some ⟨gs, 1, none⟩)) rfl (by kernel_rfl) (by kernel_rfl) (by kernel_rfl) (fun _ _ _ h => h) (Or.inl ⟨by rfl, ?_⟩) (by assumption) ?_
    · (intro W hSw; (try dsimp only at hSw); go_simp)
    show wpAnyH _ _ _ _ _ _ _ (Act.put _ (some 66) _) _
    simp only [Act.put, List.setIfInBounds_toArray, List.set_cons_zero, List.set_cons_succ]
    refine wpAnyH_take (i := 3) (v := .slice (some ⟨h.gr, 0, none⟩) tn h.kr) rfl (by kernel_rfl) (by kernel_rfl) (by kernel_rfl) (fun _ _ _ h => h) (Or.inl ⟨by rfl, ?_⟩) (by assumption) ?_
    · (intro W hSw; (try dsimp only at hSw); go_simp)
    show wpAnyH _ _ _ _ _ _ _ (Act.put _ (some 67) _) _
    simp only [Act.put, List.setIfInBounds_toArray, List.set_cons_zero, List.set_cons_succ]
    refine wpAnyH_take (i := 4) (v := .int .i64 t) rfl (by kernel_rfl) (by kernel_rfl) (by kernel_rfl) (fun _ _ _ h => h) (Or.inl ⟨by rfl, ?_⟩) (by assumption) ?_
    · (intro W hSw; (try dsimp only at hSw); go_simp)
    show wpAnyH _ _ _ _ _ _ _ (Act.put _ (some 68) _) _
    simp only [Act.put, List.setIfInBounds_toArray, List.set_cons_zero, List.set_cons_succ]
    refine wpAnyH_take (i := 5) (v := .pointer (some ⟨gi, 1, none⟩)) rfl (by kernel_rfl) (by kernel_rfl) (by kernel_rfl) (fun _ _ _ h => h) (Or.inl ⟨by rfl, ?_⟩) (by assumption) ?_
    · (intro W hSw; (try dsimp only at hSw); go_simp)
    show wpAnyH _ _ _ _ _ _ _ (Act.put _ (some 69) _) _
    simp only [Act.put, List.setIfInBounds_toArray, List.set_cons_zero, List.set_cons_succ]
    refine wpAnyH_take (i := 6) (v := .int .i64 rgn) rfl (by kernel_rfl) (by kernel_rfl) (by kernel_rfl) (fun _ _ _ h => h) (Or.inl ⟨by rfl, ?_⟩) (by assumption) ?_
    · (intro W hSw; (try dsimp only at hSw); go_simp)
    show wpAnyH _ _ _ _ _ _ _ (Act.put _ (some 70) _) _
    simp only [Act.put, List.setIfInBounds_toArray, List.set_cons_zero, List.set_cons_succ]
    refine wpAnyH_take (i := 7) (v := .pointer (some ⟨gs, 0, none⟩)) rfl (by kernel_rfl) (by kernel_rfl) (by kernel_rfl) (fun _ _ _ h => h) (Or.inl ⟨by rfl, ?_⟩) (by assumption) ?_
    · (intro W hSw; (try dsimp only at hSw); go_simp)
    show wpAnyH _ _ _ _ _ _ _ (Act.put _ (some 71) _) _
    simp only [Act.put, List.setIfInBounds_toArray, List.set_cons_zero, List.set_cons_succ]
    refine wpAnyH_take (i := 8) (v := .int .i64 t) rfl (by kernel_rfl) (by kernel_rfl) (by kernel_rfl) (fun _ _ _ h => h) (Or.inl ⟨by rfl, ?_⟩) (by assumption) ?_
    · (intro W hSw; (try dsimp only at hSw); go_simp)
    show wpAnyH _ _ _ _ _ _ _ (Act.put _ (some 72) _) _
    simp only [Act.put, List.setIfInBounds_toArray, List.set_cons_zero, List.set_cons_succ]
    refine wpAnyH_take (i := 9) (v := .pointer (some ⟨gi, 2, none⟩)) rfl (by kernel_rfl) (by kernel_rfl) (by kernel_rfl) (fun _ _ _ h => h) (Or.inl ⟨by rfl, ?_⟩) (by assumption) ?_
    · (intro W hSw; (try dsimp only at hSw); go_simp)
    show wpAnyH _ _ _ _ _ _ _ (Act.put _ (some 73) _) _
    simp only [Act.put, List.setIfInBounds_toArray, List.set_cons_zero, List.set_cons_succ]
    refine wpAnyH_take (i := 10) (v := .int .i64 adn) rfl (by kernel_rfl) (by kernel_rfl) (by kernel_rfl) (fun _ _ _ h => h) (Or.inl ⟨by rfl, ?_⟩) (by assumption) ?_
    · (intro W hSw; (try dsimp only at hSw); go_simp)
    show wpAnyH _ _ _ _ _ _ _ (Act.put _ (some 74) _) _
    simp only [Act.put, List.setIfInBounds_toArray, List.set_cons_zero, List.set_cons_succ]
    refine wpAnyH_take (i := 12) (v := .pointer (some ⟨h.gr, t * 4, none⟩)) rfl (by kernel_rfl) (by kernel_rfl) (by kernel_rfl) (fun _ _ _ h => h) (Or.inl ⟨by rfl, ?_⟩) (by assumption) ?_
    · (intro W hSw; (try dsimp only at hSw); go_simp)
    show wpAnyH _ _ _ _ _ _ _ (Act.put _ (some 76) _) _
    simp only [Act.put, List.setIfInBounds_toArray, List.set_cons_zero, List.set_cons_succ]
    rw [← hC]
    rw [← hC] at hS
    clear hC s1 i1 i2
    have rc := HHC.out.st.reg (LS.r_at (t := t) (q := rgn) (by have := HHC.out.st.rlen; omega))
    have rf := HHC.out.st.r.frozen (t * 4 + rgn)
    refine wpAnyH_ready (rs := [11]) (by kernel_rfl) (by simp) (AllReadyH.cons rfl (fun K1 hK1 => ?_) (AllReadyH.nil))
    rw [if_pos (by rfl)]
    go_simp
    go_at_call 142
    refine (see_any C gs h tn wn S tt xs HHC.out t adn hlt had).mono ?_
    rintro e w3 ⟨rfl, rfl⟩
    refine hK1.out _ _ hS (fun _ => ?_)
    refine wpAnyH_take (i := 13) (v := .pointer (some ⟨h.gr, t * 4 + rgn, none⟩)) rfl (by kernel_rfl) (by kernel_rfl) (by kernel_rfl) (fun _ _ _ h => h) (Or.inl ⟨by rfl, ?_⟩) (hS) ?_
    · (intro W hSw; (try dsimp only at hSw); go_simp)
    show wpAnyH _ _ _ _ _ _ _ (Act.put _ (some 77) _) _
    simp only [Act.put, List.setIfInBounds_toArray, List.set_cons_zero, List.set_cons_succ]
    refine wpAnyH_ready (rs := [14]) (by kernel_rfl) (by simp) (AllReadyH.cons rfl (fun K2 hK2 => ?_) (AllReadyH.nil))
    rw [if_pos (by rfl)]
    go_simp
    have hSe : (w3.setCell ⟨h.gr, t * 4 + rgn, none⟩ (.int .i64 (S.w adn))).cell? ⟨gs, 1, none⟩ = some (.slice (some ⟨h.gr, 0, none⟩) tn h.kr) ∧ (w3.setCell ⟨h.gr, t * 4 + rgn, none⟩ (.int .i64 (S.w adn))).cell? ⟨gi, 1, none⟩ = some (.int .i64 rgn) ∧ (w3.setCell ⟨h.gr, t * 4 + rgn, none⟩ (.int .i64 (S.w adn))).cell? ⟨gi, 2, none⟩ = some (.int .i64 adn) := ⟨(HHC.out.setR _ _).s1, (HIC.out.far (by dsimp only; omega) _).cell rfl, (HIC.out.far (by dsimp only; omega) _).cell rfl⟩
    refine hK2.out _ _ hSe (fun _ => ?_)
    refine wpAnyH_done (by kernel_rfl) ?_ _
    go_upto_region 37 with fail
    obtain ⟨D, hD, HHD, HFD, HLD, HID⟩ : ∃ Z9, Z9 = (w3.setCell ⟨h.gr, t * 4 + rgn, none⟩ (.int .i64 (S.w adn))) ∧ Hid (HdAt Z9 gs h tn wn (LS.mk S.ws (S.rs.set (t * 4 + rgn) (S.w adn)) S.ps) tt xs) ∧ Hid (Fr (SF h) w Z9) ∧ Hid (Blk Z9 w.heap.size 101 [.slice wA wn wk, .slice (some ⟨tb, to', none⟩) tn tk]) ∧ Hid (Blk Z9 gi 204 [.int .i64 1, .int .i64 rgn, .int .i64 adn, .int .i64 vl, .int .i64 sr, .int .i64 od, .int .i64 ct]) := ⟨_, rfl, HHC.out.setR _ _, HFC.out.setCell (Or.inr (Or.inl rfl)) _, HLC.out.far (by dsimp only; omega) _, HIC.out.far (by dsimp only; omega) _⟩
    rw [← hD]
    clear hD
    clear rc rf
    have q1 : D.cell? ⟨w.heap.size, 1, none⟩ = some (.slice (some ⟨tb, to', none⟩) tn tk) := HLD.out.cell rfl
    have hd : D.cell? ⟨tb, to' + t, none⟩ = some (.slice (some ⟨cb, co, none⟩) xn xk) := HHd.out D (HFD.out.to_below hBw hsf)
    have s2 := HHD.out.s2
    have pl := HHD.out.st.place (LS.p_at (t := t) (by rw [HHD.out.st.plen]; exact hlt))
    have pf := HHD.out.st.p.frozen t
    have hwp : LS.p (LS.mk S.ws (S.rs.set (t * 4 + rgn) (S.w adn)) S.ps) t = S.p t := rfl
    rw [hwp] at pl
    have x1 : IntKind.i64.wrap ((S.p t : Int) + 1) = ((S.p t + 0 + 1 : Nat) : Int) := (IntWalk.i64_in _ (by omega)).trans (by omega)
    have HEnd : Hid (∀ v : Int, v = ((min (S.p t + 0 + 1) xn : Nat) : Int) → WkR h tn wn (turnS ⟨wA, wn, wk, ws, some ⟨tb, to', none⟩, tn, tk, th⟩ S ⟨t, false, ua⟩) true w (.returned (.bool true)) (D.setCell ⟨h.gp, t, none⟩ (.int .i64 v)).drew) := fun v hv => rt_end (k := 0) HHD.out HFD.out HTS2.out (by unfold effS; simp) (by unfold skipS; simp) hv
    go_still_tail 21, (by kernel_rfl)
    go_wp2_with fail
    all_goals (go_ret; exact HEnd.out _ (by omega))
  · have h9 := HOk9.out
    unfold okIns at h9
    rw [if_neg (by simp), if_pos (by simp)] at h9
    rw [Bool.and_eq_true, Bool.and_eq_true, decide_eq_true_eq, decide_eq_true_eq] at h9
    obtain ⟨adn, ha, had⟩ := adr_of (h9.1)
    dsimp only at ha
    subst ha
    have hsr := h9.2
    dsimp only at hsr
    clear h9
    have g2 : (0 : Int) ≤ adn := by omega
    have g3 : (adn : Int) < wn := by omega
    by_cases hs : sr < 0
    · have m1 : decide ((0 : Int) ≤ sr) = false := by simp; omega
      have m2 : ¬ (0 : Int) ≤ sr := by omega
      have s0 := HHA.out.s0
      have wc := HHA.out.st.word (LS.w_at (a := adn) (by rw [HHA.out.st.wlen]; exact had))
      have wf := HHA.out.st.w.frozen adn
      have i2 : A.cell? ⟨gi, 2, none⟩ = some (.int .i64 adn) := HIA.out.cell rfl
      have i3 : A.cell? ⟨gi, 3, none⟩ = some (.int .i64 vl) := HIA.out.cell rfl
      have i4 : A.cell? ⟨gi, 4, none⟩ = some (.int .i64 sr) := HIA.out.cell rfl
      go_upto_region 18 with fail
      go_still_tail 7, (by kernel_rfl)
      go_upto_region 37 with fail
      obtain ⟨D, hD, HHD, HFD, HLD, HID⟩ : ∃ Z9, Z9 = (A.setCell ⟨h.gw, adn, none⟩ (.int .i64 vl)).drew ∧ Hid (HdAt Z9 gs h tn wn (LS.mk (S.ws.set adn vl) S.rs S.ps) tt xs) ∧ Hid (Fr (SF h) w Z9) ∧ Hid (Blk Z9 w.heap.size 101 [.slice wA wn wk, .slice (some ⟨tb, to', none⟩) tn tk]) ∧ Hid (Blk Z9 gi 204 [.int .i64 2, .int .i64 rg, .int .i64 adn, .int .i64 vl, .int .i64 sr, .int .i64 od, .int .i64 ct]) := ⟨_, rfl, (HHA.out.setW _ _).on (Below.refl _ _).drew, (HFA.out.setCell (Or.inl rfl) _).drew, HLA.out.far (by dsimp only; omega) _, HIA.out.far (by dsimp only; omega) _⟩
      rw [← hD]
      clear hD
      clear s0 wc wf i2 i3 i4
      have q1 : D.cell? ⟨w.heap.size, 1, none⟩ = some (.slice (some ⟨tb, to', none⟩) tn tk) := HLD.out.cell rfl
      have hd : D.cell? ⟨tb, to' + t, none⟩ = some (.slice (some ⟨cb, co, none⟩) xn xk) := HHd.out D (HFD.out.to_below hBw hsf)
      have s2 := HHD.out.s2
      have pl := HHD.out.st.place (LS.p_at (t := t) (by rw [HHD.out.st.plen]; exact hlt))
      have pf := HHD.out.st.p.frozen t
      have hwp : LS.p (LS.mk (S.ws.set adn vl) S.rs S.ps) t = S.p t := rfl
      rw [hwp] at pl
      have x1 : IntKind.i64.wrap ((S.p t : Int) + 1) = ((S.p t + 0 + 1 : Nat) : Int) := (IntWalk.i64_in _ (by omega)).trans (by omega)
      have HEnd : Hid (∀ v : Int, v = ((min (S.p t + 0 + 1) xn : Nat) : Int) → WkR h tn wn (turnS ⟨wA, wn, wk, ws, some ⟨tb, to', none⟩, tn, tk, th⟩ S ⟨t, false, ua⟩) true w (.returned (.bool true)) (D.setCell ⟨h.gp, t, none⟩ (.int .i64 v)).drew) := fun v hv => rt_end (k := 0) HHD.out HFD.out HTS2.out (by unfold effS; simp [m2]) (by unfold skipS; simp) hv
      go_still_tail 21, (by kernel_rfl)
      go_wp2_with fail
      all_goals (go_ret; exact HEnd.out _ (by omega))
    · obtain ⟨srn, rfl⟩ : ∃ srn : Nat, sr = srn := ⟨sr.toNat, by omega⟩
      have m1 : decide ((0 : Int) ≤ (srn : Int)) = true := by simp
      have g4 : (0 : Int) ≤ srn := by omega
      have g5 : (srn : Int) < 4 := by omega
      have s1 := HHA.out.s1
      have rs := HHA.out.st.reg (LS.r_at (t := t) (q := srn) (by have := HHA.out.st.rlen; omega))
      have i3 : A.cell? ⟨gi, 3, none⟩ = some (.int .i64 vl) := HIA.out.cell rfl
      have i4 : A.cell? ⟨gi, 4, none⟩ = some (.int .i64 srn) := HIA.out.cell rfl
      go_upto_region 16 with fail
      go_quiet (fail)
      have hb9 : Below A.heap.size A (A.drewN nq) := (Below.refl _ _).drewN _
      obtain ⟨C, hC, HHC, HFC, HLC, HIC⟩ : ∃ Z9, Z9 = A.drewN nq ∧ Hid (HdAt Z9 gs h tn wn S tt xs) ∧ Hid (Fr (SF h) w Z9) ∧ Hid (Blk Z9 w.heap.size 101 [.slice wA wn wk, .slice (some ⟨tb, to', none⟩) tn tk]) ∧ Hid (Blk Z9 gi 204 [.int .i64 2, .int .i64 rg, .int .i64 adn, .int .i64 vl, .int .i64 srn, .int .i64 od, .int .i64 ct]) := ⟨_, rfl, HHA.out.on hb9, HFA.out.trans (Fr.of hb9), HLA.out.below hb9 HLA.out.lt, HIA.out.below hb9 HIA.out.lt⟩
      rw [← hC]
      clear hC
      clear hb9
      clear s1 rs i3 i4
      have s0 := HHC.out.s0
      have wc := HHC.out.st.word (LS.w_at (a := adn) (by rw [HHC.out.st.wlen]; exact had))
      have wf := HHC.out.st.w.frozen adn
      have i2 : C.cell? ⟨gi, 2, none⟩ = some (.int .i64 adn) := HIC.out.cell rfl
      have i3 : C.cell? ⟨gi, 3, none⟩ = some (.int .i64 vl) := HIC.out.cell rfl
      have i4 : C.cell? ⟨gi, 4, none⟩ = some (.int .i64 srn) := HIC.out.cell rfl
      go_upto_region 18 with fail
      go_still_tail 7, (by kernel_rfl)
      go_upto_region 37 with fail
      obtain ⟨D, hD, HHD, HFD, HLD, HID⟩ : ∃ Z9, Z9 = (C.setCell ⟨h.gw, adn, none⟩ (.int .i64 (S.r t srn))).drew ∧ Hid (HdAt Z9 gs h tn wn (LS.mk (S.ws.set adn (S.r t srn)) S.rs S.ps) tt xs) ∧ Hid (Fr (SF h) w Z9) ∧ Hid (Blk Z9 w.heap.size 101 [.slice wA wn wk, .slice (some ⟨tb, to', none⟩) tn tk]) ∧ Hid (Blk Z9 gi 204 [.int .i64 2, .int .i64 rg, .int .i64 adn, .int .i64 vl, .int .i64 srn, .int .i64 od, .int .i64 ct]) := ⟨_, rfl, (HHC.out.setW _ _).on (Below.refl _ _).drew, (HFC.out.setCell (Or.inl rfl) _).drew, HLC.out.far (by dsimp only; omega) _, HIC.out.far (by dsimp only; omega) _⟩
      rw [← hD]
      clear hD
      clear s0 wc wf i2 i3 i4
      have q1 : D.cell? ⟨w.heap.size, 1, none⟩ = some (.slice (some ⟨tb, to', none⟩) tn tk) := HLD.out.cell rfl
      have hd : D.cell? ⟨tb, to' + t, none⟩ = some (.slice (some ⟨cb, co, none⟩) xn xk) := HHd.out D (HFD.out.to_below hBw hsf)
      have s2 := HHD.out.s2
      have pl := HHD.out.st.place (LS.p_at (t := t) (by rw [HHD.out.st.plen]; exact hlt))
      have pf := HHD.out.st.p.frozen t
      have hwp : LS.p (LS.mk (S.ws.set adn (S.r t srn)) S.rs S.ps) t = S.p t := rfl
      rw [hwp] at pl
      have x1 : IntKind.i64.wrap ((S.p t : Int) + 1) = ((S.p t + 0 + 1 : Nat) : Int) := (IntWalk.i64_in _ (by omega)).trans (by omega)
      have HEnd : Hid (∀ v : Int, v = ((min (S.p t + 0 + 1) xn : Nat) : Int) → WkR h tn wn (turnS ⟨wA, wn, wk, ws, some ⟨tb, to', none⟩, tn, tk, th⟩ S ⟨t, false, ua⟩) true w (.returned (.bool true)) (D.setCell ⟨h.gp, t, none⟩ (.int .i64 v)).drew) := fun v hv => rt_end (k := 0) HHD.out HFD.out HTS2.out (by unfold effS; simp) (by unfold skipS; simp) hv
      go_still_tail 21, (by kernel_rfl)
      go_wp2_with fail
      all_goals (go_ret; exact HEnd.out _ (by omega))
  · have h9 := HOk9.out
    unfold okIns at h9
    rw [if_pos (by simp)] at h9
    rw [Bool.and_eq_true] at h9
    obtain ⟨rgn, hrg, hrg4⟩ := reg_of (h9.1)
    dsimp only at hrg
    subst hrg
    obtain ⟨adn, ha, had⟩ := adr_of (h9.2)
    dsimp only at ha
    subst ha
    clear h9
    have g0 : (0 : Int) ≤ rgn := by omega
    have g1 : (rgn : Int) < 4 := by omega
    have g2 : (0 : Int) ≤ adn := by omega
    have g3 : (adn : Int) < wn := by omega
    have d7 : decide ((0 : Int) < 0) = false := rfl
    have s3 := HHA.out.s3
    have bu := HHA.out.st.buf hlt
    have s1 := HHA.out.s1
    have rc := HHA.out.st.reg (LS.r_at (t := t) (q := rgn) (by have := HHA.out.st.rlen; omega))
    have rf := HHA.out.st.r.frozen (t * 4 + rgn)
    have i1 : A.cell? ⟨gi, 1, none⟩ = some (.int .i64 rgn) := HIA.out.cell rfl
    go_upto_region 23 with fail
    go_still_tail 8, (by kernel_rfl)
    go_upto_region 24 with fail
    obtain ⟨C, hC, HHC, HFC, HLC, HIC⟩ : ∃ Z9, Z9 = (A.setCell ⟨h.gr, t * 4 + rgn, none⟩ (.int .i64 0)).drew ∧ Hid (HdAt Z9 gs h tn wn (LS.mk S.ws (S.rs.set (t * 4 + rgn) 0) S.ps) tt xs) ∧ Hid (Fr (SF h) w Z9) ∧ Hid (Blk Z9 w.heap.size 101 [.slice wA wn wk, .slice (some ⟨tb, to', none⟩) tn tk]) ∧ Hid (Blk Z9 gi 204 [.int .i64 3, .int .i64 rgn, .int .i64 adn, .int .i64 vl, .int .i64 sr, .int .i64 od, .int .i64 ct]) := ⟨_, rfl, (HHA.out.setR _ _).on (Below.refl _ _).drew, (HFA.out.setCell (Or.inr (Or.inl rfl)) _).drew, HLA.out.far (by dsimp only; omega) _, HIA.out.far (by dsimp only; omega) _⟩
    rw [← hC]
    clear hC
    clear s3 bu s1 rc rf i1
    have s0 := HHC.out.s0
    have wc := HHC.out.st.word (LS.w_at (a := adn) (by rw [HHC.out.st.wlen]; exact had))
    have wf := HHC.out.st.w.frozen adn
    have i2 : C.cell? ⟨gi, 2, none⟩ = some (.int .i64 adn) := HIC.out.cell rfl
    have i5 : C.cell? ⟨gi, 5, none⟩ = some (.int .i64 od) := HIC.out.cell rfl
    have hww : LS.w (LS.mk S.ws (S.rs.set (t * 4 + rgn) 0) S.ps) adn = S.w adn := rfl
    rw [hww] at wc
    by_cases hq : S.w adn = od
    · have m1 : (S.w adn == od) = true := by simpa using hq
      have m2 : decide (S.w adn = od) = true := by simpa using hq
      have HQ := Lib.hid hq
      clear hq
      go_quiet (fail)
      have hb9 : Below C.heap.size C (C.drewN nq) := (Below.refl _ _).drewN _
      obtain ⟨D, hD, HHD, HFD, HLD, HID⟩ : ∃ Z9, Z9 = C.drewN nq ∧ Hid (HdAt Z9 gs h tn wn (LS.mk S.ws (S.rs.set (t * 4 + rgn) 0) S.ps) tt xs) ∧ Hid (Fr (SF h) w Z9) ∧ Hid (Blk Z9 w.heap.size 101 [.slice wA wn wk, .slice (some ⟨tb, to', none⟩) tn tk]) ∧ Hid (Blk Z9 gi 204 [.int .i64 3, .int .i64 rgn, .int .i64 adn, .int .i64 vl, .int .i64 sr, .int .i64 od, .int .i64 ct]) := ⟨_, rfl, HHC.out.on hb9, HFC.out.trans (Fr.of hb9), HLC.out.below hb9 HLC.out.lt, HIC.out.below hb9 HIC.out.lt⟩
      rw [← hD]
      clear hD
      clear hb9
      clear hww s0 wc wf i2 i5
      have s0 := HHD.out.s0
      have wc := HHD.out.st.word (LS.w_at (a := adn) (by rw [HHD.out.st.wlen]; exact had))
      have wf := HHD.out.st.w.frozen adn
      have i2 : D.cell? ⟨gi, 2, none⟩ = some (.int .i64 adn) := HID.out.cell rfl
      have i3 : D.cell? ⟨gi, 3, none⟩ = some (.int .i64 vl) := HID.out.cell rfl
      go_upto_region 25 with fail
      go_still_tail 8, (by kernel_rfl)
      go_upto_region 26 with fail
      obtain ⟨E, hE, HHE, HFE, HLE, HIE⟩ : ∃ Z9, Z9 = (D.setCell ⟨h.gw, adn, none⟩ (.int .i64 vl)).drew ∧ Hid (HdAt Z9 gs h tn wn (LS.mk (S.ws.set adn vl) (S.rs.set (t * 4 + rgn) 0) S.ps) tt xs) ∧ Hid (Fr (SF h) w Z9) ∧ Hid (Blk Z9 w.heap.size 101 [.slice wA wn wk, .slice (some ⟨tb, to', none⟩) tn tk]) ∧ Hid (Blk Z9 gi 204 [.int .i64 3, .int .i64 rgn, .int .i64 adn, .int .i64 vl, .int .i64 sr, .int .i64 od, .int .i64 ct]) := ⟨_, rfl, (HHD.out.setW _ _).on (Below.refl _ _).drew, (HFD.out.setCell (Or.inl rfl) _).drew, HLD.out.far (by dsimp only; omega) _, HID.out.far (by dsimp only; omega) _⟩
      rw [← hE]
      clear hE
      clear m1 m2 s0 wc wf i2 i3
      have s1 := HHE.out.s1
      have rc := HHE.out.st.reg (LS.r_at (t := t) (q := rgn) (by have := HHE.out.st.rlen; omega))
      have rf := HHE.out.st.r.frozen (t * 4 + rgn)
      have i1 : E.cell? ⟨gi, 1, none⟩ = some (.int .i64 rgn) := HIE.out.cell rfl
      go_still_tail 8, (by kernel_rfl)
      go_upto_region 37 with fail
      obtain ⟨G, hG, HHG, HFG, HLG, HIG⟩ : ∃ Z9, Z9 = (E.setCell ⟨h.gr, t * 4 + rgn, none⟩ (.int .i64 1)).drew ∧ Hid (HdAt Z9 gs h tn wn (LS.mk (S.ws.set adn vl) ((S.rs.set (t * 4 + rgn) 0).set (t * 4 + rgn) 1) S.ps) tt xs) ∧ Hid (Fr (SF h) w Z9) ∧ Hid (Blk Z9 w.heap.size 101 [.slice wA wn wk, .slice (some ⟨tb, to', none⟩) tn tk]) ∧ Hid (Blk Z9 gi 204 [.int .i64 3, .int .i64 rgn, .int .i64 adn, .int .i64 vl, .int .i64 sr, .int .i64 od, .int .i64 ct]) := ⟨_, rfl, (HHE.out.setR _ _).on (Below.refl _ _).drew, (HFE.out.setCell (Or.inr (Or.inl rfl)) _).drew, HLE.out.far (by dsimp only; omega) _, HIE.out.far (by dsimp only; omega) _⟩
      rw [← hG]
      clear hG
      clear s1 rc rf i1
      have q1 : G.cell? ⟨w.heap.size, 1, none⟩ = some (.slice (some ⟨tb, to', none⟩) tn tk) := HLG.out.cell rfl
      have hd : G.cell? ⟨tb, to' + t, none⟩ = some (.slice (some ⟨cb, co, none⟩) xn xk) := HHd.out G (HFG.out.to_below hBw hsf)
      have s2 := HHG.out.s2
      have pl := HHG.out.st.place (LS.p_at (t := t) (by rw [HHG.out.st.plen]; exact hlt))
      have pf := HHG.out.st.p.frozen t
      have hwp : LS.p (LS.mk (S.ws.set adn vl) ((S.rs.set (t * 4 + rgn) 0).set (t * 4 + rgn) 1) S.ps) t = S.p t := rfl
      rw [hwp] at pl
      have x1 : IntKind.i64.wrap ((S.p t : Int) + 1) = ((S.p t + 0 + 1 : Nat) : Int) := (IntWalk.i64_in _ (by omega)).trans (by omega)
      have HEnd : Hid (∀ v : Int, v = ((min (S.p t + 0 + 1) xn : Nat) : Int) → WkR h tn wn (turnS ⟨wA, wn, wk, ws, some ⟨tb, to', none⟩, tn, tk, th⟩ S ⟨t, false, ua⟩) true w (.returned (.bool true)) (G.setCell ⟨h.gp, t, none⟩ (.int .i64 v)).drew) := fun v hv => rt_end (k := 0) HHG.out HFG.out HTS2.out (by unfold effS; simp [HQ.out]) (by unfold skipS; simp) hv
      go_still_tail 21, (by kernel_rfl)
      go_wp2_with fail
      all_goals (go_ret; exact HEnd.out _ (by omega))
    · have m1 : (S.w adn == od) = false := by simpa using hq
      have m2 : decide (S.w adn = od) = false := by simpa using hq
      have HQ := Lib.hid hq
      clear hq
      go_quiet (fail)
      have hb9 : Below C.heap.size C (C.drewN nq) := (Below.refl _ _).drewN _
      obtain ⟨D, hD, HHD, HFD, HLD, HID⟩ : ∃ Z9, Z9 = C.drewN nq ∧ Hid (HdAt Z9 gs h tn wn (LS.mk S.ws (S.rs.set (t * 4 + rgn) 0) S.ps) tt xs) ∧ Hid (Fr (SF h) w Z9) ∧ Hid (Blk Z9 w.heap.size 101 [.slice wA wn wk, .slice (some ⟨tb, to', none⟩) tn tk]) ∧ Hid (Blk Z9 gi 204 [.int .i64 3, .int .i64 rgn, .int .i64 adn, .int .i64 vl, .int .i64 sr, .int .i64 od, .int .i64 ct]) := ⟨_, rfl, HHC.out.on hb9, HFC.out.trans (Fr.of hb9), HLC.out.below hb9 HLC.out.lt, HIC.out.below hb9 HIC.out.lt⟩
      rw [← hD]
      clear hD
      clear hb9
      go_upto_region 37 with fail
      clear hww m1 m2 s0 wc wf i2 i5
      have q1 : D.cell? ⟨w.heap.size, 1, none⟩ = some (.slice (some ⟨tb, to', none⟩) tn tk) := HLD.out.cell rfl
      have hd : D.cell? ⟨tb, to' + t, none⟩ = some (.slice (some ⟨cb, co, none⟩) xn xk) := HHd.out D (HFD.out.to_below hBw hsf)
      have s2 := HHD.out.s2
      have pl := HHD.out.st.place (LS.p_at (t := t) (by rw [HHD.out.st.plen]; exact hlt))
      have pf := HHD.out.st.p.frozen t
      have hwp : LS.p (LS.mk S.ws (S.rs.set (t * 4 + rgn) 0) S.ps) t = S.p t := rfl
      rw [hwp] at pl
      have x1 : IntKind.i64.wrap ((S.p t : Int) + 1) = ((S.p t + 0 + 1 : Nat) : Int) := (IntWalk.i64_in _ (by omega)).trans (by omega)
      have HEnd : Hid (∀ v : Int, v = ((min (S.p t + 0 + 1) xn : Nat) : Int) → WkR h tn wn (turnS ⟨wA, wn, wk, ws, some ⟨tb, to', none⟩, tn, tk, th⟩ S ⟨t, false, ua⟩) true w (.returned (.bool true)) (D.setCell ⟨h.gp, t, none⟩ (.int .i64 v)).drew) := fun v hv => rt_end (k := 0) HHD.out HFD.out HTS2.out (by unfold effS; simp [HQ.out]) (by unfold skipS; simp) hv
      go_still_tail 21, (by kernel_rfl)
      go_wp2_with fail
      all_goals (go_ret; exact HEnd.out _ (by omega))
  · have d7 : decide ((0 : Int) < 0) = false := rfl
    have s3 := HHA.out.s3
    have bu := HHA.out.st.buf hlt
    go_upto_region 37 with fail
    clear s3 bu
    have q1 : A.cell? ⟨w.heap.size, 1, none⟩ = some (.slice (some ⟨tb, to', none⟩) tn tk) := HLA.out.cell rfl
    have hd : A.cell? ⟨tb, to' + t, none⟩ = some (.slice (some ⟨cb, co, none⟩) xn xk) := HHd.out A (HFA.out.to_below hBw hsf)
    have s2 := HHA.out.s2
    have pl := HHA.out.st.place (LS.p_at (t := t) (by rw [HHA.out.st.plen]; exact hlt))
    have pf := HHA.out.st.p.frozen t
    have hwp : LS.p S t = S.p t := rfl
    rw [hwp] at pl
    have x1 : IntKind.i64.wrap ((S.p t : Int) + 1) = ((S.p t + 0 + 1 : Nat) : Int) := (IntWalk.i64_in _ (by omega)).trans (by omega)
    have HEnd : Hid (∀ v : Int, v = ((min (S.p t + 0 + 1) xn : Nat) : Int) → WkR h tn wn (turnS ⟨wA, wn, wk, ws, some ⟨tb, to', none⟩, tn, tk, th⟩ S ⟨t, false, ua⟩) true w (.returned (.bool true)) (A.setCell ⟨h.gp, t, none⟩ (.int .i64 v)).drew) := fun v hv => rt_end (k := 0) HHA.out HFA.out HTS2.out (by unfold effS; simp) (by unfold skipS; simp) hv
    go_still_tail 21, (by kernel_rfl)
    go_wp2_with fail
    all_goals (go_ret; exact HEnd.out _ (by omega))
  · have h9 := HOk9.out
    unfold okIns at h9
    rw [if_neg (by simp), if_neg (by simp), if_neg (by simp), if_pos (by simp)] at h9
    obtain ⟨rgn, hrg, hrg4⟩ := reg_of (h9)
    dsimp only at hrg
    subst hrg
    clear h9
    have g0 : (0 : Int) ≤ rgn := by omega
    have g1 : (rgn : Int) < 4 := by omega
    have s1 := HHA.out.s1
    have rc := HHA.out.st.reg (LS.r_at (t := t) (q := rgn) (by have := HHA.out.st.rlen; omega))
    have rf := HHA.out.st.r.frozen (t * 4 + rgn)
    have i1 : A.cell? ⟨gi, 1, none⟩ = some (.int .i64 rgn) := HIA.out.cell rfl
    have i3 : A.cell? ⟨gi, 3, none⟩ = some (.int .i64 vl) := HIA.out.cell rfl
    go_upto_region 31 with fail
    go_still_tail 10, (by kernel_rfl)
    go_upto_region 37 with fail
    obtain ⟨C, hC, HHC, HFC, HLC, HIC⟩ : ∃ Z9, Z9 = (A.setCell ⟨h.gr, t * 4 + rgn, none⟩ (.int .i64 vl)).drew ∧ Hid (HdAt Z9 gs h tn wn (LS.mk S.ws (S.rs.set (t * 4 + rgn) vl) S.ps) tt xs) ∧ Hid (Fr (SF h) w Z9) ∧ Hid (Blk Z9 w.heap.size 101 [.slice wA wn wk, .slice (some ⟨tb, to', none⟩) tn tk]) ∧ Hid (Blk Z9 gi 204 [.int .i64 5, .int .i64 rgn, .int .i64 ad, .int .i64 vl, .int .i64 sr, .int .i64 od, .int .i64 ct]) := ⟨_, rfl, (HHA.out.setR _ _).on (Below.refl _ _).drew, (HFA.out.setCell (Or.inr (Or.inl rfl)) _).drew, HLA.out.far (by dsimp only; omega) _, HIA.out.far (by dsimp only; omega) _⟩
    rw [← hC]
    clear hC
    clear s1 rc rf i1 i3
    have q1 : C.cell? ⟨w.heap.size, 1, none⟩ = some (.slice (some ⟨tb, to', none⟩) tn tk) := HLC.out.cell rfl
    have hd : C.cell? ⟨tb, to' + t, none⟩ = some (.slice (some ⟨cb, co, none⟩) xn xk) := HHd.out C (HFC.out.to_below hBw hsf)
    have s2 := HHC.out.s2
    have pl := HHC.out.st.place (LS.p_at (t := t) (by rw [HHC.out.st.plen]; exact hlt))
    have pf := HHC.out.st.p.frozen t
    have hwp : LS.p (LS.mk S.ws (S.rs.set (t * 4 + rgn) vl) S.ps) t = S.p t := rfl
    rw [hwp] at pl
    have x1 : IntKind.i64.wrap ((S.p t : Int) + 1) = ((S.p t + 0 + 1 : Nat) : Int) := (IntWalk.i64_in _ (by omega)).trans (by omega)
    have HEnd : Hid (∀ v : Int, v = ((min (S.p t + 0 + 1) xn : Nat) : Int) → WkR h tn wn (turnS ⟨wA, wn, wk, ws, some ⟨tb, to', none⟩, tn, tk, th⟩ S ⟨t, false, ua⟩) true w (.returned (.bool true)) (C.setCell ⟨h.gp, t, none⟩ (.int .i64 v)).drew) := fun v hv => rt_end (k := 0) HHC.out HFC.out HTS2.out (by unfold effS; simp) (by unfold skipS; simp) hv
    go_still_tail 21, (by kernel_rfl)
    go_wp2_with fail
    all_goals (go_ret; exact HEnd.out _ (by omega))
  · have h9 := HOk9.out
    unfold okIns at h9
    rw [if_neg (by simp), if_neg (by simp), if_neg (by simp), if_pos (by simp)] at h9
    obtain ⟨rgn, hrg, hrg4⟩ := reg_of (h9)
    dsimp only at hrg
    subst hrg
    clear h9
    have g0 : (0 : Int) ≤ rgn := by omega
    have g1 : (rgn : Int) < 4 := by omega
    have s1 := HHA.out.s1
    have rc := HHA.out.st.reg (LS.r_at (t := t) (q := rgn) (by have := HHA.out.st.rlen; omega))
    have rf := HHA.out.st.r.frozen (t * 4 + rgn)
    have i1 : A.cell? ⟨gi, 1, none⟩ = some (.int .i64 rgn) := HIA.out.cell rfl
    have i3 : A.cell? ⟨gi, 3, none⟩ = some (.int .i64 vl) := HIA.out.cell rfl
    go_upto_region 33 with fail
    go_still_tail 14, (by kernel_rfl)
    go_upto_region 37 with fail
    obtain ⟨C, hC, HHC, HFC, HLC, HIC⟩ : ∃ Z9, Z9 = (A.setCell ⟨h.gr, t * 4 + rgn, none⟩ (.int .i64 (wrap64 (S.r t rgn + vl)))).drew ∧ Hid (HdAt Z9 gs h tn wn (LS.mk S.ws (S.rs.set (t * 4 + rgn) (wrap64 (S.r t rgn + vl))) S.ps) tt xs) ∧ Hid (Fr (SF h) w Z9) ∧ Hid (Blk Z9 w.heap.size 101 [.slice wA wn wk, .slice (some ⟨tb, to', none⟩) tn tk]) ∧ Hid (Blk Z9 gi 204 [.int .i64 6, .int .i64 rgn, .int .i64 ad, .int .i64 vl, .int .i64 sr, .int .i64 od, .int .i64 ct]) := ⟨_, rfl, (HHA.out.setR _ _).on (Below.refl _ _).drew, (HFA.out.setCell (Or.inr (Or.inl rfl)) _).drew, HLA.out.far (by dsimp only; omega) _, HIA.out.far (by dsimp only; omega) _⟩
    rw [← hC]
    clear hC
    clear s1 rc rf i1 i3
    have q1 : C.cell? ⟨w.heap.size, 1, none⟩ = some (.slice (some ⟨tb, to', none⟩) tn tk) := HLC.out.cell rfl
    have hd : C.cell? ⟨tb, to' + t, none⟩ = some (.slice (some ⟨cb, co, none⟩) xn xk) := HHd.out C (HFC.out.to_below hBw hsf)
    have s2 := HHC.out.s2
    have pl := HHC.out.st.place (LS.p_at (t := t) (by rw [HHC.out.st.plen]; exact hlt))
    have pf := HHC.out.st.p.frozen t
    have hwp : LS.p (LS.mk S.ws (S.rs.set (t * 4 + rgn) (wrap64 (S.r t rgn + vl))) S.ps) t = S.p t := rfl
    rw [hwp] at pl
    have x1 : IntKind.i64.wrap ((S.p t : Int) + 1) = ((S.p t + 0 + 1 : Nat) : Int) := (IntWalk.i64_in _ (by omega)).trans (by omega)
    have HEnd : Hid (∀ v : Int, v = ((min (S.p t + 0 + 1) xn : Nat) : Int) → WkR h tn wn (turnS ⟨wA, wn, wk, ws, some ⟨tb, to', none⟩, tn, tk, th⟩ S ⟨t, false, ua⟩) true w (.returned (.bool true)) (C.setCell ⟨h.gp, t, none⟩ (.int .i64 v)).drew) := fun v hv => rt_end (k := 0) HHC.out HFC.out HTS2.out (by unfold effS; simp [w64']) (by unfold skipS; simp) hv
    go_still_tail 21, (by kernel_rfl)
    go_wp2_with fail
    all_goals (go_ret; exact HEnd.out _ (by omega))
  · have h9 := HOk9.out
    unfold okIns at h9
    rw [if_neg (by simp), if_neg (by simp), if_neg (by simp), if_neg (by simp), if_pos (by simp)] at h9
    rw [Bool.and_eq_true, Bool.and_eq_true, decide_eq_true_eq, decide_eq_true_eq] at h9
    obtain ⟨rgn, hrg, hrg4⟩ := reg_of (h9.1)
    dsimp only at hrg
    subst hrg
    have hct := h9.2
    dsimp only at hct
    obtain ⟨ctn, rfl⟩ : ∃ ctn : Nat, ct = ctn := ⟨ct.toNat, by omega⟩
    clear h9
    have g0 : (0 : Int) ≤ rgn := by omega
    have g1 : (rgn : Int) < 4 := by omega
    have s1 := HHA.out.s1
    have rc := HHA.out.st.reg (LS.r_at (t := t) (q := rgn) (by have := HHA.out.st.rlen; omega))
    have rf := HHA.out.st.r.frozen (t * 4 + rgn)
    have i1 : A.cell? ⟨gi, 1, none⟩ = some (.int .i64 rgn) := HIA.out.cell rfl
    have i3 : A.cell? ⟨gi, 3, none⟩ = some (.int .i64 vl) := HIA.out.cell rfl
    by_cases hq : S.r t rgn = vl
    · have m1 : (S.r t rgn == vl) = true := by simpa using hq
      have m2 : decide (S.r t rgn = vl) = true := by simpa using hq
      have HQ := Lib.hid hq
      clear hq
      go_upto_region 35 with fail
      go_quiet (fail)
      have hb9 : Below A.heap.size A (A.drewN nq) := (Below.refl _ _).drewN _
      obtain ⟨C, hC, HHC, HFC, HLC, HIC⟩ : ∃ Z9, Z9 = A.drewN nq ∧ Hid (HdAt Z9 gs h tn wn S tt xs) ∧ Hid (Fr (SF h) w Z9) ∧ Hid (Blk Z9 w.heap.size 101 [.slice wA wn wk, .slice (some ⟨tb, to', none⟩) tn tk]) ∧ Hid (Blk Z9 gi 204 [.int .i64 7, .int .i64 rgn, .int .i64 ad, .int .i64 vl, .int .i64 sr, .int .i64 od, .int .i64 ctn]) := ⟨_, rfl, HHA.out.on hb9, HFA.out.trans (Fr.of hb9), HLA.out.below hb9 HLA.out.lt, HIA.out.below hb9 HIA.out.lt⟩
      rw [← hC]
      clear hC
      clear hb9
      clear m1 m2 s1 rc rf i1 i3
      have i6 : C.cell? ⟨gi, 6, none⟩ = some (.int .i64 ctn) := HIC.out.cell rfl
      have x0 : IntKind.i64.wrap ((1 : Int) + (ctn : Int)) = ((1 + ctn : Nat) : Int) := (IntWalk.i64_in _ (by omega)).trans (by simp)
      go_upto_region 37 with fail
      clear i6
      have q1 : C.cell? ⟨w.heap.size, 1, none⟩ = some (.slice (some ⟨tb, to', none⟩) tn tk) := HLC.out.cell rfl
      have hd : C.cell? ⟨tb, to' + t, none⟩ = some (.slice (some ⟨cb, co, none⟩) xn xk) := HHd.out C (HFC.out.to_below hBw hsf)
      have s2 := HHC.out.s2
      have pl := HHC.out.st.place (LS.p_at (t := t) (by rw [HHC.out.st.plen]; exact hlt))
      have pf := HHC.out.st.p.frozen t
      have hwp : LS.p S t = S.p t := rfl
      rw [hwp] at pl
      have x1 : IntKind.i64.wrap ((S.p t : Int) + ((1 + ctn : Nat) : Int)) = ((S.p t + ctn + 1 : Nat) : Int) := (IntWalk.i64_in _ (by omega)).trans (by omega)
      have HEnd : Hid (∀ v : Int, v = ((min (S.p t + ctn + 1) xn : Nat) : Int) → WkR h tn wn (turnS ⟨wA, wn, wk, ws, some ⟨tb, to', none⟩, tn, tk, th⟩ S ⟨t, false, ua⟩) true w (.returned (.bool true)) (C.setCell ⟨h.gp, t, none⟩ (.int .i64 v)).drew) := fun v hv => rt_end (k := ctn) HHC.out HFC.out HTS2.out (by unfold effS; simp) (by unfold skipS; simp [HQ.out]) hv
      go_still_tail 21, (by kernel_rfl)
      go_wp2_with fail
      all_goals (go_ret; exact HEnd.out _ (by omega))
    · have m1 : (S.r t rgn == vl) = false := by simpa using hq
      have m2 : decide (S.r t rgn = vl) = false := by simpa using hq
      have HQ := Lib.hid hq
      clear hq
      go_upto_region 35 with fail
      go_quiet (fail)
      have hb9 : Below A.heap.size A (A.drewN nq) := (Below.refl _ _).drewN _
      obtain ⟨C, hC, HHC, HFC, HLC, HIC⟩ : ∃ Z9, Z9 = A.drewN nq ∧ Hid (HdAt Z9 gs h tn wn S tt xs) ∧ Hid (Fr (SF h) w Z9) ∧ Hid (Blk Z9 w.heap.size 101 [.slice wA wn wk, .slice (some ⟨tb, to', none⟩) tn tk]) ∧ Hid (Blk Z9 gi 204 [.int .i64 7, .int .i64 rgn, .int .i64 ad, .int .i64 vl, .int .i64 sr, .int .i64 od, .int .i64 ctn]) := ⟨_, rfl, HHA.out.on hb9, HFA.out.trans (Fr.of hb9), HLA.out.below hb9 HLA.out.lt, HIA.out.below hb9 HIA.out.lt⟩
      rw [← hC]
      clear hC
      clear hb9
      go_upto_region 37 with fail
      clear m1 m2 s1 rc rf i1 i3
      have q1 : C.cell? ⟨w.heap.size, 1, none⟩ = some (.slice (some ⟨tb, to', none⟩) tn tk) := HLC.out.cell rfl
      have hd : C.cell? ⟨tb, to' + t, none⟩ = some (.slice (some ⟨cb, co, none⟩) xn xk) := HHd.out C (HFC.out.to_below hBw hsf)
      have s2 := HHC.out.s2
      have pl := HHC.out.st.place (LS.p_at (t := t) (by rw [HHC.out.st.plen]; exact hlt))
      have pf := HHC.out.st.p.frozen t
      have hwp : LS.p S t = S.p t := rfl
      rw [hwp] at pl
      have x1 : IntKind.i64.wrap ((S.p t : Int) + 1) = ((S.p t + 0 + 1 : Nat) : Int) := (IntWalk.i64_in _ (by omega)).trans (by omega)
      have HEnd : Hid (∀ v : Int, v = ((min (S.p t + 0 + 1) xn : Nat) : Int) → WkR h tn wn (turnS ⟨wA, wn, wk, ws, some ⟨tb, to', none⟩, tn, tk, th⟩ S ⟨t, false, ua⟩) true w (.returned (.bool true)) (C.setCell ⟨h.gp, t, none⟩ (.int .i64 v)).drew) := fun v hv => rt_end (k := 0) HHC.out HFC.out HTS2.out (by unfold effS; simp) (by unfold skipS; simp [HQ.out]) hv
      go_still_tail 21, (by kernel_rfl)
      go_wp2_with fail
      all_goals (go_ret; exact HEnd.out _ (by omega))

theorem rturn_any (l : Lit) (w : World) (B gs : Nat) (h : SH) (S : LS) (u : Tn) (tt : TypeId) (xs : List Value) (hl : LitAt w B l) (hBw : B ≤ w.heap.size) (hn : NewS B h) (hh : HdAt w gs h l.tn l.wn S tt xs) (hg : GoodS l S) (hok : okLit l = true) :
    Calls Try.prog 124 #[litV l, .int .i64 1, .pointer (some ⟨gs, 0, none⟩), tnV u] w (WkR h l.tn l.wn (turnS l S u) (pickS l S u).isSome w) := by
  cases hp : pickS l S u with
  | some x => exact rturn_yes l w B gs h S u tt xs x hl hBw hn hh hg hok hp
  | none =>
    refine (rturn_no l w B gs h S u tt xs hl hBw hn hh hg hok hp).mono ?_
    rintro e w' ⟨rfl, hb9⟩
    have : turnS l S u = S := by unfold turnS; rw [hp]
    rw [this]
    exact ⟨rfl, hh.st.on hb9, Fr.of hb9⟩
end Go.Proofs.Ytgbopmgeicokoaa
