/-
  tso.within, tso.fits.
  tso.Check.
-/
import Derived.Test.YtgbopmgeicokoaaRw0
import Derived.BigQuiet
import Derived.Deep.QuietTactic
import Derived.Test.YtgbopmgeicokoaaWMany
namespace Go.Proofs.Ytgbopmgeicokoaa
open Go.RowKit

set_option maxRecDepth 100000 in
theorem within_any (a n : Int) (w : World) : Calls Try.prog 150 #[.int .i64 a, .int .i64 n] w (fun e w' => e = .returned (.bool (decide (0 ≤ a) && decide (a < n))) ∧ w' = w) := by
  by_cases h0 : 0 ≤ a
  · by_cases h1 : a < n
    · have b0 : decide (0 ≤ a) = true := by simp [h0]
      have b1 : decide (a < n) = true := by simp [h1]
      go_enter Try.func150, Try.ntmps150
      go_wp2_with fail
      go_ret
      exact ⟨by simp [h0, h1], rfl⟩
    · have b0 : decide (0 ≤ a) = true := by simp [h0]
      have b1 : decide (a < n) = false := by simp [h1]
      go_enter Try.func150, Try.ntmps150
      go_wp2_with fail
      go_ret
      exact ⟨by simp, rfl⟩
  · have b0 : decide (0 ≤ a) = false := by simp [h0]
    go_enter Try.func150, Try.ntmps150
    go_wp2_with fail
    go_ret
    exact ⟨by simp, rfl⟩
theorem win_b {a n : Int} {b : Bool} (w : World) (h : (decide (0 ≤ a) && decide (a < n)) = b) : Calls Try.prog 150 #[.int .i64 a, .int .i64 n] w (fun e w' => e = .returned (.bool b) ∧ w' = w) := by
  rw [← h]
  exact within_any a n w

set_option maxRecDepth 100000 in
set_option maxHeartbeats 4000000 in
theorem fits_any (l : Lit) (x : Ins) (w : World) (hs : SrcOk x) : Calls Try.prog 136 #[litV l, insV x] w (BoolR (okIns l.wn x) w) := by
  obtain ⟨kd, rg, ad, vl, sr, od, ct⟩ := x
  obtain ⟨r, hr⟩ : ∃ r, regB ⟨kd, rg, ad, vl, sr, od, ct⟩ = r := ⟨_, rfl⟩
  obtain ⟨d, hd⟩ : ∃ d, adrB l.wn ⟨kd, rg, ad, vl, sr, od, ct⟩ = d := ⟨_, rfl⟩
  have HR : Hid (∀ W, Calls Try.prog 150 #[.int .i64 rg, .int .i64 4] W (fun e w' => e = .returned (.bool r) ∧ w' = W)) := fun W => win_b W hr
  have HD : Hid (∀ W, Calls Try.prog 150 #[.int .i64 ad, .int .i64 l.wn] W (fun e w' => e = .returned (.bool d) ∧ w' = W)) := fun W => win_b W hd
  have HW0 : Hid (Below w.heap.size w (((w.alloc (.cells #[.slice l.wA l.wn l.wk, .slice l.tA l.tn l.tk] 101)).alloc (.cells #[.int .i64 kd, .int .i64 rg, .int .i64 ad, .int .i64 vl, .int .i64 sr, .int .i64 od, .int .i64 ct] 204)))) := ((Below.refl _ _).alloc (Nat.le_refl _) _).alloc (by simp) _
  have hsr : -9223372036854775808 ≤ sr ∧ sr ≤ 9223372036854775807 := hs
  clear hs
  have hkk : kd = 1 ∨ kd = 2 ∨ kd = 3 ∨ kd = 4 ∨ kd = 5 ∨ kd = 6 ∨ kd = 7 ∨ (kd ≠ 1 ∧ kd ≠ 2 ∧ kd ≠ 3 ∧ kd ≠ 4 ∧ kd ≠ 5 ∧ kd ≠ 6 ∧ kd ≠ 7) := by omega
  obtain ⟨t, ht⟩ : ∃ t, (decide (-1 ≤ sr) && decide (sr < 4)) = t := ⟨_, rfl⟩
  obtain ⟨u, hu⟩ : ∃ u, (decide (0 ≤ ct) && decide (ct ≤ 10)) = u := ⟨_, rfl⟩
  obtain ⟨z, hz⟩ : ∃ z, IntKind.i64.wrap (sr + 1) = z := ⟨_, rfl⟩
  have HT : Hid (∀ W, Calls Try.prog 150 #[.int .i64 z, .int .i64 5] W (fun e w' => e = .returned (.bool t) ∧ w' = W)) := fun W => by
    refine win_b W ?_
    rw [← ht, ← hz]
    by_cases hm : sr = 9223372036854775807
    · subst hm
      decide
    · rw [show IntKind.i64.wrap (sr + 1) = sr + 1 from IntWalk.i64_in _ (by omega)]
      congr 1 <;> exact decide_eq_decide.2 (by omega)
  have HU : Hid (∀ W, Calls Try.prog 150 #[.int .i64 ct, .int .i64 11] W (fun e w' => e = .returned (.bool u) ∧ w' = W)) := fun W => by
    refine win_b W ?_
    rw [← hu]
    congr 1
    exact decide_eq_decide.2 (by omega)
  have HTt := Lib.hid ht
  have HUu := Lib.hid hu
  clear ht hu hsr
  have HRr := Lib.hid hr
  have HDd := Lib.hid hd
  clear hr hd
  go_enter Try.func136, Try.ntmps136
  go_upto_region 1 with fail
  have HL0 : Hid (Blk ((w.alloc (.cells #[.slice l.wA l.wn l.wk, .slice l.tA l.tn l.tk] 101)).alloc (.cells #[.int .i64 kd, .int .i64 rg, .int .i64 ad, .int .i64 vl, .int .i64 sr, .int .i64 od, .int .i64 ct] 204)) w.heap.size 101 (litL l)) := (Blk.new w 101 (litL l)).alloc _
  have HX0 : Hid (Blk ((w.alloc (.cells #[.slice l.wA l.wn l.wk, .slice l.tA l.tn l.tk] 101)).alloc (.cells #[.int .i64 kd, .int .i64 rg, .int .i64 ad, .int .i64 vl, .int .i64 sr, .int .i64 od, .int .i64 ct] 204)) (w.heap.size + 1) 204 (insL ⟨kd, rg, ad, vl, sr, od, ct⟩)) := by
    have h9 := Blk.new (w.alloc (.cells #[.slice l.wA l.wn l.wk, .slice l.tA l.tn l.tk] 101)) 204 (insL ⟨kd, rg, ad, vl, sr, od, ct⟩)
    rw [World.size_alloc] at h9
    exact h9
  generalize ((w.alloc (.cells #[.slice l.wA l.wn l.wk, .slice l.tA l.tn l.tk] 101)).alloc (.cells #[.int .i64 kd, .int .i64 rg, .int .i64 ad, .int .i64 vl, .int .i64 sr, .int .i64 od, .int .i64 ct] 204)) = w0 at HL0 HX0 HW0 ⊢
  have q0 : w0.cell? ⟨w.heap.size, 0, none⟩ = some (.slice l.wA l.wn l.wk) := HL0.out.cell rfl
  have x0 : w0.cell? ⟨w.heap.size + 1, 0, none⟩ = some (.int .i64 kd) := HX0.out.cell rfl
  have x1 : w0.cell? ⟨w.heap.size + 1, 1, none⟩ = some (.int .i64 rg) := HX0.out.cell rfl
  have x2 : w0.cell? ⟨w.heap.size + 1, 2, none⟩ = some (.int .i64 ad) := HX0.out.cell rfl
  have x4 : w0.cell? ⟨w.heap.size + 1, 4, none⟩ = some (.int .i64 sr) := HX0.out.cell rfl
  have x6 : w0.cell? ⟨w.heap.size + 1, 6, none⟩ = some (.int .i64 ct) := HX0.out.cell rfl
  clear HL0 HX0
  go_quiet (first | (go_at_call_of 150 rg; exact Calls.quiet_of_same (HR.out _)) | (go_at_call_of 150 ad; exact Calls.quiet_of_same (HD.out _)))
  rcases hkk with rfl | rfl | rfl | rfl | rfl | rfl | rfl | hn
  · have HV := Lib.hid (show okIns l.wn ⟨1, rg, ad, vl, sr, od, ct⟩ = (r && d) by unfold okIns; simp [HRr.out, HDd.out])
    cases r
    case false =>
      cases d
      case false =>
        go_wp2_with fail
        go_ret
        exact ⟨by rw [HV.out]; rfl, HW0.out.drewN _⟩
      case true =>
        go_wp2_with fail
        go_ret
        exact ⟨by rw [HV.out]; rfl, HW0.out.drewN _⟩
    case true =>
      cases d
      case false =>
        go_wp2_with fail
        go_ret
        exact ⟨by rw [HV.out]; rfl, HW0.out.drewN _⟩
      case true =>
        go_wp2_with fail
        go_ret
        exact ⟨by rw [HV.out]; rfl, HW0.out.drewN _⟩
  · have HV := Lib.hid (show okIns l.wn ⟨2, rg, ad, vl, sr, od, ct⟩ = (d && t) by unfold okIns; simp [HDd.out, HTt.out])
    cases d
    case false =>
      go_wp2_with fail
      go_ret
      exact ⟨by rw [HV.out]; rfl, HW0.out.drewN _⟩
    case true =>
      go_wp2_with fail
      refine (HT.out _).mono ?_
      rintro e wq ⟨rfl, hwq⟩
      replace hwq := hwq.symm
      subst hwq
      go_wp2_with fail
      go_ret
      exact ⟨by rw [HV.out]; rfl, HW0.out.drewN _⟩
  · have HV := Lib.hid (show okIns l.wn ⟨3, rg, ad, vl, sr, od, ct⟩ = (r && d) by unfold okIns; simp [HRr.out, HDd.out])
    cases r
    case false =>
      cases d
      case false =>
        go_wp2_with fail
        go_ret
        exact ⟨by rw [HV.out]; rfl, HW0.out.drewN _⟩
      case true =>
        go_wp2_with fail
        go_ret
        exact ⟨by rw [HV.out]; rfl, HW0.out.drewN _⟩
    case true =>
      cases d
      case false =>
        go_wp2_with fail
        go_ret
        exact ⟨by rw [HV.out]; rfl, HW0.out.drewN _⟩
      case true =>
        go_wp2_with fail
        go_ret
        exact ⟨by rw [HV.out]; rfl, HW0.out.drewN _⟩
  · have HV := Lib.hid (show okIns l.wn ⟨4, rg, ad, vl, sr, od, ct⟩ = true by unfold okIns; simp)
    go_wp2_with fail
    go_ret
    exact ⟨by rw [HV.out]; rfl, HW0.out.drewN _⟩
  · have HV := Lib.hid (show okIns l.wn ⟨5, rg, ad, vl, sr, od, ct⟩ = r by unfold okIns; simp [HRr.out])
    go_wp2_with fail
    go_ret
    exact ⟨by rw [HV.out]; rfl, HW0.out.drewN _⟩
  · have HV := Lib.hid (show okIns l.wn ⟨6, rg, ad, vl, sr, od, ct⟩ = r by unfold okIns; simp [HRr.out])
    go_wp2_with fail
    go_ret
    exact ⟨by rw [HV.out]; rfl, HW0.out.drewN _⟩
  · have HV := Lib.hid (show okIns l.wn ⟨7, rg, ad, vl, sr, od, ct⟩ = (r && u) by unfold okIns; simp [HRr.out, HUu.out])
    cases r
    case false =>
      go_wp2_with fail
      go_ret
      exact ⟨by rw [HV.out]; rfl, HW0.out.drewN _⟩
    case true =>
      go_wp2_with fail
      refine (HU.out _).mono ?_
      rintro e wq ⟨rfl, hwq⟩
      replace hwq := hwq.symm
      subst hwq
      go_wp2_with fail
      go_ret
      exact ⟨by rw [HV.out]; rfl, HW0.out.drewN _⟩
  · have HV := Lib.hid (show okIns l.wn ⟨kd, rg, ad, vl, sr, od, ct⟩ = false by unfold okIns; simp [hn])
    have e1 : (kd == 1) = false := by simp [hn]
    have e2 : (kd == 2) = false := by simp [hn]
    have e3 : (kd == 3) = false := by simp [hn]
    have e4 : (kd == 4) = false := by simp [hn]
    have e5 : (kd == 5) = false := by simp [hn]
    have e6 : (kd == 6) = false := by simp [hn]
    have e7 : (kd == 7) = false := by simp [hn]
    go_wp2_with fail
    go_ret
    exact ⟨by rw [HV.out]; rfl, HW0.out.drewN _⟩
end Go.Proofs.Ytgbopmgeicokoaa
namespace Go.Proofs.Ytgbopmgeicokoaa
open Go.RowKit

def okTh (nw : Nat) (x : Hd × List Ins) : Bool := decide (x.1.2.1 ≤ 10) && x.2.all (okIns nw)
theorem okLit_th {l : Lit} : okLit l = (decide (1 ≤ l.tn) && decide (l.tn ≤ 4) && decide (1 ≤ l.wn) && decide (l.wn ≤ 6) && l.th.all (okTh l.wn)) := rfl
def litErr (l : Lit) : Int := if okLit l = true then 0 else 190
theorem litErr_no {l : Lit} (h : okLit l = false) : litErr l = 190 := by unfold litErr; rw [h]; rfl
theorem litErr_ok {l : Lit} (h : okLit l = true) : litErr l = 0 := by unfold litErr; rw [h]; rfl
theorem th_no {l : Lit} {j : Nat} {x : Hd × List Ins} (hx : l.th[j]? = some x) (h : okTh l.wn x = false) : okLit l = false := by
  rw [okLit_th, Bool.and_eq_false_iff]
  right
  rw [List.all_eq_false]
  exact ⟨x, List.mem_of_getElem? hx, by rw [h]; decide⟩
theorem all_snoc {α : Type} {p : α → Bool} {l : List α} {j : Nat} {x : α} (hx : l[j]? = some x) (h : (l.take j).all p = true) (hp : p x = true) : (l.take (j + 1)).all p = true := by
  rw [take_snoc hx, List.all_append, h]
  simp [hp]

set_option maxRecDepth 100000 in
set_option maxHeartbeats 4000000 in
theorem tcheck_any (l : Lit) (w : World) (h : LitAt w w.heap.size l) : Calls Try.prog 120 #[litV l] w (IntR (litErr l) w) := by
  have HB0 : Hid (Blk (w.alloc (.cells #[.slice l.wA l.wn l.wk, .slice l.tA l.tn l.tk] 101)) w.heap.size 101 (litL l)) := Blk.new _ _ _
  have HW0 : Hid (Below w.heap.size w (w.alloc (.cells #[.slice l.wA l.wn l.wk, .slice l.tA l.tn l.tk] 101))) := (Below.refl _ _).alloc (Nat.le_refl _) _
  have HL := Lib.hid h
  have HT := Lib.hid h.tlen
  have hk1 := h.tk.1
  have hk2 := h.tk.2
  unfold maxLen at hk2
  have HV : Hid (∀ a b c : Bool, (decide (1 ≤ l.tn) && decide (l.tn ≤ 4) && decide (1 ≤ l.wn) && decide (l.wn ≤ 6)) = false → litErr l = 190) := fun _ _ _ h0 => litErr_no (by rw [okLit_th, h0]; rfl)
  clear h
  obtain ⟨wA, wn, wk, ws, tA, tn, tk, th⟩ := l
  dsimp only at hk1 hk2
  go_enter Try.func120, Try.ntmps120
  go_upto_region 1 with fail
  generalize w.alloc (.cells #[.slice wA wn wk, .slice tA tn tk] 101) = w0 at HB0 HW0 ⊢
  have q0 : w0.cell? ⟨w.heap.size, 0, none⟩ = some (.slice wA wn wk) := HB0.out.cell rfl
  have q1 : w0.cell? ⟨w.heap.size, 1, none⟩ = some (.slice tA tn tk) := HB0.out.cell rfl
  by_cases a1 : 1 ≤ tn
  case neg =>
    have b1 : decide ((tn : Int) < 1) = true := by simp; omega
    have b2 : (tn : Int) < 1 := by omega
    have HE := Lib.hid (HV.out true true true (by simp [a1]))
    clear HV a1
    go_wp2_with fail
    go_ret
    exact ⟨by rw [HE.out]; rfl, HW0.out⟩
  by_cases a2 : tn ≤ 4
  case neg =>
    have b1 : decide ((tn : Int) < 1) = false := by simp; omega
    have b2 : ¬ (tn : Int) < 1 := by omega
    have b3 : decide (4 < (tn : Int)) = true := by simp; omega
    have b4 : 4 < (tn : Int) := by omega
    have HE := Lib.hid (HV.out true true true (by simp [a2]))
    clear HV a1 a2
    go_wp2_with fail
    go_ret
    exact ⟨by rw [HE.out]; rfl, HW0.out⟩
  by_cases a3 : 1 ≤ wn
  case neg =>
    have b1 : decide ((tn : Int) < 1) = false := by simp; omega
    have b2 : ¬ (tn : Int) < 1 := by omega
    have b3 : decide (4 < (tn : Int)) = false := by simp; omega
    have b4 : ¬ 4 < (tn : Int) := by omega
    have b5 : decide ((wn : Int) < 1) = true := by simp; omega
    have b6 : (wn : Int) < 1 := by omega
    have HE := Lib.hid (HV.out true true true (by simp [a3]))
    clear HV a1 a2 a3
    go_wp2_with fail
    go_ret
    exact ⟨by rw [HE.out]; rfl, HW0.out⟩
  by_cases a4 : wn ≤ 6
  case neg =>
    have b1 : decide ((tn : Int) < 1) = false := by simp; omega
    have b2 : ¬ (tn : Int) < 1 := by omega
    have b3 : decide (4 < (tn : Int)) = false := by simp; omega
    have b4 : ¬ 4 < (tn : Int) := by omega
    have b5 : decide ((wn : Int) < 1) = false := by simp; omega
    have b6 : ¬ (wn : Int) < 1 := by omega
    have b7 : decide (6 < (wn : Int)) = true := by simp; omega
    have b8 : 6 < (wn : Int) := by omega
    have HE := Lib.hid (HV.out true true true (by simp [a4]))
    clear HV a1 a2 a3 a4
    go_wp2_with fail
    go_ret
    exact ⟨by rw [HE.out]; rfl, HW0.out⟩
  have b1 : decide ((tn : Int) < 1) = false := by simp; omega
  have b2 : ¬ (tn : Int) < 1 := by omega
  have b3 : decide (4 < (tn : Int)) = false := by simp; omega
  have b4 : ¬ 4 < (tn : Int) := by omega
  have b5 : decide ((wn : Int) < 1) = false := by simp; omega
  have b6 : ¬ (wn : Int) < 1 := by omega
  have b7 : decide (6 < (wn : Int)) = false := by simp; omega
  have b8 : ¬ 6 < (wn : Int) := by omega
  have HOk : Hid (th.all (okTh wn) = true → litErr ⟨wA, wn, wk, ws, tA, tn, tk, th⟩ = 0) := fun h0 => litErr_ok (by rw [okLit_th, h0]; simp [a1, a2, a3, a4])
  clear HV
  go_wp2_with fail
  clear b1 b2 b3 b4 b5 b6 b7 b8 q0 q1
  go_loopg [32] tn (fun gk i wr => ∃ j : Nat, j + gk = tn ∧ i = .int .i64 j ∧ Hid (Blk wr w.heap.size 101 (litL ⟨wA, wn, wk, ws, tA, tn, tk, th⟩)) ∧ Hid (Below w.heap.size w wr) ∧ Hid ((th.take j).all (okTh wn) = true))
  case atStart => exact ⟨0, by omega, rfl, HB0, HW0, rfl⟩
  case round =>
    obtain ⟨j, hj, rfl, HB, HW, HA⟩ := hrel
    by_cases hlt : j < tn
    · obtain ⟨x, hx⟩ := at_lt (show j < th.length by rw [HT.out]; exact hlt)
      have hL := HL.out.keep HW.out
      obtain ⟨tb, to', hta, htb, htc⟩ := hL.head hx
      have hcl := hL.clen (List.mem_of_getElem? hx)
      have hco := hL.code x (List.mem_of_getElem? hx)
      have HX := Lib.hid hx
      have HCo := Lib.hid hco.1
      have HSr := Lib.hid hco.2.2
      have hn1 := hco.2.1.1
      have hn2 := hco.2.1.2
      unfold maxLen at hn2
      clear hx hco hL
      obtain ⟨⟨xA, xn, xk⟩, code⟩ := x
      have e1 : (j : Int) < tn := by omega
      have e0 : (0 : Int) ≤ j := by omega
      have hta' : tA = some ⟨tb, to', none⟩ := hta
      subst hta'
      clear hta
      dsimp only at hcl hn1 hn2 htc
      by_cases h10 : xn ≤ 10
      case neg =>
        have b1 : decide (10 < (xn : Int)) = true := by simp; omega
        have b2 : 10 < (xn : Int) := by omega
        have HE := Lib.hid (litErr_no (th_no (l := ⟨wA, wn, wk, ws, some ⟨tb, to', none⟩, tn, tk, th⟩) HX.out (by unfold okTh; simp [h10])))
        go_wp2_with fail
        go_ret
        exact ⟨by rw [HE.out]; rfl, HW.out⟩
      have b1 : decide (10 < (xn : Int)) = false := by simp; omega
      have b2 : ¬ 10 < (xn : Int) := by omega
      have HCl := Lib.hid hcl
      clear hcl
      obtain ⟨wo, rfl⟩ : ∃ wo : World, wo = wr := ⟨_, rfl⟩
      obtain ⟨go, rfl⟩ : ∃ go : Nat, go = gk := ⟨_, rfl⟩
      have htb2 : tb < wo.heap.size := by have := HW.out.size; omega
      go_wp2_with fail
      clear b1 b2
      go_loopg [41] xn (fun gk i w' => ∃ q : Nat, q + gk = xn ∧ i = .int .i64 q ∧ Hid (Blk w' w.heap.size 101 (litL ⟨wA, wn, wk, ws, some ⟨tb, to', none⟩, tn, tk, th⟩)) ∧ Hid (Below w.heap.size w w') ∧ Hid ((code.take q).all (okIns wn) = true))
      case atStart => exact ⟨0, by omega, rfl, HB, HW, rfl⟩
      case round =>
        obtain ⟨q, hq, rfl, HB2, HW2, HQ⟩ := hrel
        by_cases hq8 : q < xn
        · obtain ⟨y, hy⟩ := at_lt (show q < code.length by rw [HCl.out]; exact hq8)
          have hL2 := HL.out.keep HW2.out
          obtain ⟨cb, co, hca, hcb, hc⟩ := ins_cell (hL2.code _ (List.mem_of_getElem? HX.out)).1 hy
          have hsy := HSr.out y (List.mem_of_getElem? hy)
          have HY := Lib.hid hy
          have hca' : xA = some ⟨cb, co, none⟩ := hca
          subst hca'
          have c0 := hc.c0
          have c1 := hc.c1
          have c2 := hc.c2
          have c3 := hc.c3
          have c4 := hc.c4
          have c5 := hc.c5
          have c6 := hc.c6
          have f1 : (q : Int) < xn := by omega
          have f0 : (0 : Int) ≤ q := by omega
          clear hy hc hca hL2
          go_upto_region 11 with fail
          have HB3 := Lib.hid (HB2.out.alloc (.cells #[.int .i64 y.kind, .int .i64 y.reg, .int .i64 y.addr, .int .i64 y.value, .int .i64 y.src, .int .i64 y.old, .int .i64 y.count] 204))
          have HW3 := Lib.hid (HW2.out.alloc HW2.out.size (.cells #[.int .i64 y.kind, .int .i64 y.reg, .int .i64 y.addr, .int .i64 y.value, .int .i64 y.src, .int .i64 y.old, .int .i64 y.count] 204))
          have q0 := HB3.out.cell (i := 0) (v := .slice wA wn wk) rfl
          have q1 := HB3.out.cell (i := 1) (v := .slice (some ⟨tb, to', none⟩) tn tk) rfl
          clear HB2 HW2 c0 c1 c2 c3 c4 c5 c6 hcb
          obtain ⟨v, hv⟩ : ∃ v, okIns wn y = v := ⟨_, rfl⟩
          have HFi : Hid (∀ W, Calls Try.prog 136 #[litV ⟨wA, wn, wk, ws, some ⟨tb, to', none⟩, tn, tk, th⟩, insV y] W (BoolR v W)) := fun W => by
            rw [← hv]
            exact fits_any ⟨wA, wn, wk, ws, some ⟨tb, to', none⟩, tn, tk, th⟩ y W hsy
          have HVv := Lib.hid hv
          clear hv hsy
          go_wp2_with fail
          refine (HFi.out _).mono ?_
          rintro e w4 ⟨rfl, hb4⟩
          have HB4 := Lib.hid (HB3.out.below hb4 HB3.out.lt)
          have HW4 := Lib.hid (HW3.out.trans (hb4.mono HW3.out.size))
          clear hb4 HB3 HW3 q0 q1 HFi
          cases v
          case false =>
            have HE := Lib.hid (litErr_no (th_no (l := ⟨wA, wn, wk, ws, some ⟨tb, to', none⟩, tn, tk, th⟩) HX.out (by
              unfold okTh
              rw [Bool.and_eq_false_iff]
              right
              rw [List.all_eq_false]
              exact ⟨y, List.mem_of_getElem? HY.out, by rw [HVv.out]; decide⟩)))
            go_wp2_with fail
            go_ret
            exact ⟨by rw [HE.out]; rfl, HW4.out⟩
          go_wp2_with fail
          go_roundg (gk - 1)
          case measure => omega
          case rel => exact ⟨q + 1, by omega, by go_num, HB4, HW4, all_snoc HY.out HQ.out HVv.out⟩
        · obtain rfl : q = xn := by omega
          have HQ' : Hid (okTh wn ((xA, q, xk), code) = true) := by
            have h9 := HQ.out
            rw [List.take_of_length_le (by rw [HCl.out]; exact Nat.le_refl _)] at h9
            show (decide (q ≤ 10) && code.all (okIns wn)) = true
            rw [h9]
            simp [h10]
          go_wp2_with fail
          go_roundg (go - 1)
          case measure => omega
          case rel => exact ⟨j + 1, by omega, by go_num, HB2, HW2, all_snoc HX.out HA.out HQ'.out⟩
    · obtain hje : j = tn := by omega
      have HE := Lib.hid (HOk.out (by
        have h9 := HA.out
        rwa [List.take_of_length_le (by rw [HT.out, hje]; exact Nat.le_refl _)] at h9))
      subst hje
      go_wp2_with fail
      go_ret
      exact ⟨by rw [HE.out]; rfl, HW.out⟩
end Go.Proofs.Ytgbopmgeicokoaa
