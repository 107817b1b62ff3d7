/-
  tso.look and tso.belongs, under sequential consistency with empty buffers.
-/
import Derived.Test.YtgbopmgeicokoaaEvt
namespace Go.Proofs.Ytgbopmgeicokoaa
open Go.RowKit

set_option maxRecDepth 100000 in
set_option maxHeartbeats 4000000 in
theorem look_any (l : Lit) (w : World) (h : LitAt w w.heap.size l) : Calls Try.prog 137 #[litV l, .int .i64 1] w (IntR (litErr l) w) := by
  have HB0 : Hid (Blk (w.alloc (.cells #[.slice l.wA l.wn l.wk, .slice l.tA l.tn l.tk] 101)) w.heap.size 101 (litL l)) := Blk.new _ _ _
  have HW0 : Hid (Below w.heap.size w (w.alloc (.cells #[.slice l.wA l.wn l.wk, .slice l.tA l.tn l.tk] 101))) := (Below.refl _ _).alloc (Nat.le_refl _) _
  have HL := Lib.hid h
  clear h
  go_enter Try.func137, Try.ntmps137
  go_upto_region 1 with fail
  generalize w.alloc (.cells #[.slice l.wA l.wn l.wk, .slice l.tA l.tn l.tk] 101) = w0 at HB0 HW0 ⊢
  have q0 : w0.cell? ⟨w.heap.size, 0, none⟩ = some (.slice l.wA l.wn l.wk) := HB0.out.cell rfl
  have q1 : w0.cell? ⟨w.heap.size, 1, none⟩ = some (.slice l.tA l.tn l.tk) := HB0.out.cell rfl
  go_wp2_with fail
  refine (tcheck_any l w0 ((HL.out.keep HW0.out).up HW0.out.size)).mono ?_
  rintro e w1 ⟨rfl, hb1⟩
  have HW1 := Lib.hid (HW0.out.trans (hb1.mono HW0.out.size))
  clear hb1
  by_cases ho : okLit l = true
  · rw [litErr_ok ho]
    have b1 : ((0 : Int) != 0) = false := rfl
    have b2 : decide ((1 : Int) < 1) = false := rfl
    have b3 : decide ((3 : Int) < 1) = false := rfl
    go_wp2_with fail
    go_ret
    exact ⟨by rw [litErr_ok ho]; rfl, HW1.out⟩
  · rw [litErr_no (by simpa using ho)]
    have b1 : ((190 : Int) != 0) = true := rfl
    go_wp2_with fail
    go_ret
    exact ⟨by rw [litErr_no (by simpa using ho)]; rfl, HW1.out⟩

theorem LitAt.heads {w : World} {B : Nat} {l : Lit} (h : LitAt w B l) (h1 : 1 ≤ l.tn) : ∃ b o, l.tA = some ⟨b, o, none⟩ ∧ b < B ∧ ∀ j x, l.th[j]? = some x → w.cell? ⟨b, o + j, none⟩ = some (.slice x.1.1 x.1.2.1 x.1.2.2) := by
  obtain ⟨x, hx⟩ := at_lt (show 0 < l.th.length by rw [h.tlen]; omega)
  obtain ⟨b, o, e, hb, _⟩ := h.head hx
  refine ⟨b, o, e, hb, fun j y hy => ?_⟩
  obtain ⟨b', o', e', _, hc⟩ := h.head hy
  rw [e] at e'
  injection e' with e'
  injection e' with e1 e2
  subst e1 e2
  exact hc
theorem codeOf_at {l : Lit} {t : Nat} {x : Hd × List Ins} (h : l.th[t]? = some x) : codeOf l t = x.2 := by unfold codeOf; rw [h]

set_option maxRecDepth 100000 in
set_option maxHeartbeats 4000000 in
theorem belongs_any (l : Lit) (w : World) (h : SH) (S : LS) (hl : LitAt w w.heap.size l) (hs : StAt w h l.tn l.wn S) (hg : GoodS l S) (hok : okLit l = true) :
    Calls Try.prog 138 #[litV l, .int .i64 1, stV h l.tn l.wn] w (BoolR true w) := by
  obtain ⟨n1, n2, n3, n4⟩ := okLit_num hok
  have HL := Lib.hid hl
  have HS := Lib.hid hs
  have HG := Lib.hid hg
  have HOk := Lib.hid hok
  obtain ⟨tb, to', hta, htb, _⟩ := hl.heads n1
  clear hl hs hg hok
  obtain ⟨wA, wn, wk, ws, tA, tn, tk, th⟩ := l
  have hta' : tA = some ⟨tb, to', none⟩ := hta
  subst hta'
  clear hta
  dsimp only at n1 n2 n3 n4
  have HL0 : Hid (Blk ((w.alloc (.cells #[.slice wA wn wk, .slice (some ⟨tb, to', none⟩) tn tk] 101)).alloc (.cells #[.slice (some ⟨h.gw, 0, none⟩) wn h.kw, .slice (some ⟨h.gr, 0, none⟩) tn h.kr, .slice (some ⟨h.gp, 0, none⟩) tn h.kp, .slice (some ⟨h.gb, 0, none⟩) tn h.kb] 113)) w.heap.size 101 [.slice wA wn wk, .slice (some ⟨tb, to', none⟩) tn tk]) := (Blk.new w 101 [.slice wA wn wk, .slice (some ⟨tb, to', none⟩) tn tk]).alloc _
  have HX0 : Hid (Blk ((w.alloc (.cells #[.slice wA wn wk, .slice (some ⟨tb, to', none⟩) tn tk] 101)).alloc (.cells #[.slice (some ⟨h.gw, 0, none⟩) wn h.kw, .slice (some ⟨h.gr, 0, none⟩) tn h.kr, .slice (some ⟨h.gp, 0, none⟩) tn h.kp, .slice (some ⟨h.gb, 0, none⟩) tn h.kb] 113)) (w.heap.size + 1) 113 (stL h tn wn)) := by
    have h9 := Blk.new (w.alloc (.cells #[.slice wA wn wk, .slice (some ⟨tb, to', none⟩) tn tk] 101)) 113 (stL h tn wn)
    rw [World.size_alloc] at h9
    exact h9
  have HW0 : Hid (Below w.heap.size w ((w.alloc (.cells #[.slice wA wn wk, .slice (some ⟨tb, to', none⟩) tn tk] 101)).alloc (.cells #[.slice (some ⟨h.gw, 0, none⟩) wn h.kw, .slice (some ⟨h.gr, 0, none⟩) tn h.kr, .slice (some ⟨h.gp, 0, none⟩) tn h.kp, .slice (some ⟨h.gb, 0, none⟩) tn h.kb] 113))) := ((Below.refl _ _).alloc (Nat.le_refl _) _).alloc (by simp) _
  go_enter Try.func138, Try.ntmps138
  go_upto_region 1 with fail
  generalize ((w.alloc (.cells #[.slice wA wn wk, .slice (some ⟨tb, to', none⟩) tn tk] 101)).alloc (.cells #[.slice (some ⟨h.gw, 0, none⟩) wn h.kw, .slice (some ⟨h.gr, 0, none⟩) tn h.kr, .slice (some ⟨h.gp, 0, none⟩) tn h.kp, .slice (some ⟨h.gb, 0, none⟩) tn h.kb] 113)) = w0 at HL0 HX0 HW0 ⊢
  have q0 : w0.cell? ⟨w.heap.size, 0, none⟩ = some (.slice wA wn wk) := HL0.out.cell rfl
  have q1 : w0.cell? ⟨w.heap.size, 1, none⟩ = some (.slice (some ⟨tb, to', none⟩) tn tk) := HL0.out.cell rfl
  have s0 : w0.cell? ⟨w.heap.size + 1, 0, none⟩ = some (.slice (some ⟨h.gw, 0, none⟩) wn h.kw) := HX0.out.cell rfl
  have s1 : w0.cell? ⟨w.heap.size + 1, 1, none⟩ = some (.slice (some ⟨h.gr, 0, none⟩) tn h.kr) := HX0.out.cell rfl
  have s2 : w0.cell? ⟨w.heap.size + 1, 2, none⟩ = some (.slice (some ⟨h.gp, 0, none⟩) tn h.kp) := HX0.out.cell rfl
  have s3 : w0.cell? ⟨w.heap.size + 1, 3, none⟩ = some (.slice (some ⟨h.gb, 0, none⟩) tn h.kb) := HX0.out.cell rfl
  have d1 : ((wn : Int) != wn) = false := by simp
  have d2 : ((tn : Int) != tn) = false := by simp
  go_wp2_with fail
  clear d1 d2 q0 q1 s0 s1 s2 s3
  go_loopg [46] tn (fun gk i wr => ∃ j : Nat, j + gk = tn ∧ i = .int .i64 j ∧ Hid (Blk wr w.heap.size 101 [.slice wA wn wk, .slice (some ⟨tb, to', none⟩) tn tk]) ∧ Hid (Blk wr (w.heap.size + 1) 113 (stL h tn wn)) ∧ Hid (Below w.heap.size w wr))
  case atStart => exact ⟨0, by omega, rfl, HL0, HX0, HW0⟩
  case round =>
    obtain ⟨j, hj, rfl, HB, HX, HW⟩ := hrel
    by_cases hlt : j < tn
    · obtain ⟨x, hx⟩ := at_lt (show j < th.length by have := HL.out.tlen; dsimp only at this; omega)
      have hL := HL.out.keep HW.out
      obtain ⟨tb2, to2, hta2, htb2, htc⟩ := hL.head hx
      injection hta2 with hta2
      injection hta2 with e1 e2
      subst e1 e2
      have hcl := hL.clen (List.mem_of_getElem? hx)
      have hle := HG.out.le j hlt
      rw [codeOf_at hx, hcl] at hle
      have h10 := (okLit_code HOk.out hx).1
      have hco := (hL.code x (List.mem_of_getElem? hx)).2.1
      have hn1 := hco.1
      have hn2 := hco.2
      unfold maxLen at hn2
      clear hx hco hL hcl
      obtain ⟨⟨xA, xn, xk⟩, code⟩ := x
      dsimp only at hn1 hn2 htc hle h10
      have HW2 := HS.out.on HW.out
      have c1 := HW2.place (LS.p_at (S := S) (t := j) (by rw [HW2.plen]; exact hlt))
      have c2 := HW2.buf hlt
      clear HW2
      have e1 : (j : Int) < tn := by omega
      have e0 : (0 : Int) ≤ j := by omega
      have q0 : wr.cell? ⟨w.heap.size, 0, none⟩ = some (.slice wA wn wk) := HB.out.cell rfl
      have q1 : wr.cell? ⟨w.heap.size, 1, none⟩ = some (.slice (some ⟨tb, to', none⟩) tn tk) := HB.out.cell rfl
      have s2 : wr.cell? ⟨w.heap.size + 1, 2, none⟩ = some (.slice (some ⟨h.gp, 0, none⟩) tn h.kp) := HX.out.cell rfl
      have s3 : wr.cell? ⟨w.heap.size + 1, 3, none⟩ = some (.slice (some ⟨h.gb, 0, none⟩) tn h.kb) := HX.out.cell rfl
      have x1 : IntKind.i64.wrap ((xn : Int) + 1) = ((xn + 1 : Nat) : Int) := (IntWalk.i64_in _ (by omega)).trans (by simp)
      have HWi : Hid (∀ W, Calls Try.prog 150 #[.int .i64 (S.p j), .int .i64 ((xn + 1 : Nat) : Int)] W (fun e w' => e = .returned (.bool true) ∧ w' = W)) := fun W => win_b W (by simp; omega)
      have d3 : decide ((10 : Int) < 0) = false := rfl
      have d4 : decide ((0 : Int) < 0) = false := rfl
      have d5 : ((1 : Int) == 1) = true := rfl
      go_wp2_with fail
      refine (HWi.out _).mono ?_
      rintro e w1 ⟨rfl, rfl⟩
      go_wp2_with fail
      clear q0 q1 s2 s3 c1 c2 htc e0 e1
      obtain ⟨wo, rfl⟩ : ∃ wo : World, wo = w1 := ⟨_, rfl⟩
      obtain ⟨go, rfl⟩ : ∃ go : Nat, go = gk := ⟨_, rfl⟩
      go_loopg [89] 0 (fun g9 i wb => i = .int .i64 0 ∧ wb = wo)
      case atStart => exact ⟨rfl, rfl⟩
      case round =>
        obtain ⟨rfl, rfl⟩ := hrel
        go_wp2_with fail
        go_roundg (go - 1)
        case measure => omega
        case rel => exact ⟨j + 1, by omega, by go_num, HB, HX, HW⟩
    · obtain rfl : j = tn := by omega
      go_wp2_with fail
      go_ret
      exact ⟨rfl, HW.out⟩

end Go.Proofs.Ytgbopmgeicokoaa
