/-
  tso.within, tso.fits.
-/
import Derived.Test.YtgbopmgeicokoaaLit
import Derived.BigQuiet
import Derived.Deep.QuietTactic
namespace Go.Proofs.Ytgbopmgeicokoaa
open Go.RowKit

set_option maxRecDepth 100000 in
theorem within_any (a n : Int) (w : World) : Calls Try.prog 150 #[.int .i64 a, .int .i64 n] w (fun e w' => e = .returned (.bool (decide (0 ≤ a) && decide (a < n))) ∧ w' = w) := by
  by_cases h0 : 0 ≤ a
  · by_cases h1 : a < n
    · have b0 : decide (0 ≤ a) = true := by simp [h0]
      have b1 : decide (a < n) = true := by simp [h1]
      go_enter Try.func150, Try.ntmps150
      go_wp2_with fail
      go_ret
      exact ⟨by simp [h0, h1], rfl⟩
    · have b0 : decide (0 ≤ a) = true := by simp [h0]
      have b1 : decide (a < n) = false := by simp [h1]
      go_enter Try.func150, Try.ntmps150
      go_wp2_with fail
      go_ret
      exact ⟨by simp, rfl⟩
  · have b0 : decide (0 ≤ a) = false := by simp [h0]
    go_enter Try.func150, Try.ntmps150
    go_wp2_with fail
    go_ret
    exact ⟨by simp, rfl⟩
theorem win_b {a n : Int} {b : Bool} (w : World) (h : (decide (0 ≤ a) && decide (a < n)) = b) : Calls Try.prog 150 #[.int .i64 a, .int .i64 n] w (fun e w' => e = .returned (.bool b) ∧ w' = w) := by
  rw [← h]
  exact within_any a n w

set_option maxRecDepth 100000 in
set_option maxHeartbeats 4000000 in
theorem fits_any (l : Lit) (x : Ins) (w : World) (hs : SrcOk x) : Calls Try.prog 136 #[litV l, insV x] w (BoolR (okIns l.wn x) w) := by
  obtain ⟨kd, rg, ad, vl, sr, od, ct⟩ := x
  obtain ⟨r, hr⟩ : ∃ r, regB ⟨kd, rg, ad, vl, sr, od, ct⟩ = r := ⟨_, rfl⟩
  obtain ⟨d, hd⟩ : ∃ d, adrB l.wn ⟨kd, rg, ad, vl, sr, od, ct⟩ = d := ⟨_, rfl⟩
  have HR : Hid (∀ W, Calls Try.prog 150 #[.int .i64 rg, .int .i64 4] W (fun e w' => e = .returned (.bool r) ∧ w' = W)) := fun W => win_b W hr
  have HD : Hid (∀ W, Calls Try.prog 150 #[.int .i64 ad, .int .i64 l.wn] W (fun e w' => e = .returned (.bool d) ∧ w' = W)) := fun W => win_b W hd
  have HW0 : Hid (Below w.heap.size w (((w.alloc (.cells #[.slice l.wA l.wn l.wk, .slice l.tA l.tn l.tk] 101)).alloc (.cells #[.int .i64 kd, .int .i64 rg, .int .i64 ad, .int .i64 vl, .int .i64 sr, .int .i64 od, .int .i64 ct] 204)))) := ((Below.refl _ _).alloc (Nat.le_refl _) _).alloc (by simp) _
  have hsr : -9223372036854775808 ≤ sr ∧ sr ≤ 9223372036854775807 := hs
  clear hs
  have hkk : kd = 1 ∨ kd = 2 ∨ kd = 3 ∨ kd = 4 ∨ kd = 5 ∨ kd = 6 ∨ kd = 7 ∨ (kd ≠ 1 ∧ kd ≠ 2 ∧ kd ≠ 3 ∧ kd ≠ 4 ∧ kd ≠ 5 ∧ kd ≠ 6 ∧ kd ≠ 7) := by omega
  obtain ⟨t, ht⟩ : ∃ t, (decide (-1 ≤ sr) && decide (sr < 4)) = t := ⟨_, rfl⟩
  obtain ⟨u, hu⟩ : ∃ u, (decide (0 ≤ ct) && decide (ct ≤ 10)) = u := ⟨_, rfl⟩
  obtain ⟨z, hz⟩ : ∃ z, IntKind.i64.wrap (sr + 1) = z := ⟨_, rfl⟩
  have HT : Hid (∀ W, Calls Try.prog 150 #[.int .i64 z, .int .i64 5] W (fun e w' => e = .returned (.bool t) ∧ w' = W)) := fun W => by
    refine win_b W ?_
    rw [← ht, ← hz]
    by_cases hm : sr = 9223372036854775807
    · subst hm
      decide
    · rw [show IntKind.i64.wrap (sr + 1) = sr + 1 from IntWalk.i64_in _ (by omega)]
      congr 1 <;> exact decide_eq_decide.2 (by omega)
  have HU : Hid (∀ W, Calls Try.prog 150 #[.int .i64 ct, .int .i64 11] W (fun e w' => e = .returned (.bool u) ∧ w' = W)) := fun W => by
    refine win_b W ?_
    rw [← hu]
    congr 1
    exact decide_eq_decide.2 (by omega)
  have HTt := Lib.hid ht
  have HUu := Lib.hid hu
  clear ht hu hsr
  have HRr := Lib.hid hr
  have HDd := Lib.hid hd
  clear hr hd
  go_enter Try.func136, Try.ntmps136
  go_upto_region 1 with fail
  have HL0 : Hid (Blk ((w.alloc (.cells #[.slice l.wA l.wn l.wk, .slice l.tA l.tn l.tk] 101)).alloc (.cells #[.int .i64 kd, .int .i64 rg, .int .i64 ad, .int .i64 vl, .int .i64 sr, .int .i64 od, .int .i64 ct] 204)) w.heap.size 101 (litL l)) := (Blk.new w 101 (litL l)).alloc _
  have HX0 : Hid (Blk ((w.alloc (.cells #[.slice l.wA l.wn l.wk, .slice l.tA l.tn l.tk] 101)).alloc (.cells #[.int .i64 kd, .int .i64 rg, .int .i64 ad, .int .i64 vl, .int .i64 sr, .int .i64 od, .int .i64 ct] 204)) (w.heap.size + 1) 204 (insL ⟨kd, rg, ad, vl, sr, od, ct⟩)) := by
    have h9 := Blk.new (w.alloc (.cells #[.slice l.wA l.wn l.wk, .slice l.tA l.tn l.tk] 101)) 204 (insL ⟨kd, rg, ad, vl, sr, od, ct⟩)
    rw [World.size_alloc] at h9
    exact h9
  generalize ((w.alloc (.cells #[.slice l.wA l.wn l.wk, .slice l.tA l.tn l.tk] 101)).alloc (.cells #[.int .i64 kd, .int .i64 rg, .int .i64 ad, .int .i64 vl, .int .i64 sr, .int .i64 od, .int .i64 ct] 204)) = w0 at HL0 HX0 HW0 ⊢
  have q0 : w0.cell? ⟨w.heap.size, 0, none⟩ = some (.slice l.wA l.wn l.wk) := HL0.out.cell rfl
  have x0 : w0.cell? ⟨w.heap.size + 1, 0, none⟩ = some (.int .i64 kd) := HX0.out.cell rfl
  have x1 : w0.cell? ⟨w.heap.size + 1, 1, none⟩ = some (.int .i64 rg) := HX0.out.cell rfl
  have x2 : w0.cell? ⟨w.heap.size + 1, 2, none⟩ = some (.int .i64 ad) := HX0.out.cell rfl
  have x4 : w0.cell? ⟨w.heap.size + 1, 4, none⟩ = some (.int .i64 sr) := HX0.out.cell rfl
  have x6 : w0.cell? ⟨w.heap.size + 1, 6, none⟩ = some (.int .i64 ct) := HX0.out.cell rfl
  clear HL0 HX0
  go_quiet (first | (go_at_call_of 150 rg; exact Calls.quiet_of_same (HR.out _)) | (go_at_call_of 150 ad; exact Calls.quiet_of_same (HD.out _)))
  rcases hkk with rfl | rfl | rfl | rfl | rfl | rfl | rfl | hn
  · have HV := Lib.hid (show okIns l.wn ⟨1, rg, ad, vl, sr, od, ct⟩ = (r && d) by unfold okIns; simp [HRr.out, HDd.out])
    cases r
    case false =>
      cases d
      case false =>
        go_wp2_with fail
        go_ret
        exact ⟨by rw [HV.out]; rfl, HW0.out.drewN _⟩
      case true =>
        go_wp2_with fail
        go_ret
        exact ⟨by rw [HV.out]; rfl, HW0.out.drewN _⟩
    case true =>
      cases d
      case false =>
        go_wp2_with fail
        go_ret
        exact ⟨by rw [HV.out]; rfl, HW0.out.drewN _⟩
      case true =>
        go_wp2_with fail
        go_ret
        exact ⟨by rw [HV.out]; rfl, HW0.out.drewN _⟩
  · have HV := Lib.hid (show okIns l.wn ⟨2, rg, ad, vl, sr, od, ct⟩ = (d && t) by unfold okIns; simp [HDd.out, HTt.out])
    cases d
    case false =>
      go_wp2_with fail
      go_ret
      exact ⟨by rw [HV.out]; rfl, HW0.out.drewN _⟩
    case true =>
      go_wp2_with fail
      refine (HT.out _).mono ?_
      rintro e wq ⟨rfl, hwq⟩
      replace hwq := hwq.symm
      subst hwq
      go_wp2_with fail
      go_ret
      exact ⟨by rw [HV.out]; rfl, HW0.out.drewN _⟩
  · have HV := Lib.hid (show okIns l.wn ⟨3, rg, ad, vl, sr, od, ct⟩ = (r && d) by unfold okIns; simp [HRr.out, HDd.out])
    cases r
    case false =>
      cases d
      case false =>
        go_wp2_with fail
        go_ret
        exact ⟨by rw [HV.out]; rfl, HW0.out.drewN _⟩
      case true =>
        go_wp2_with fail
        go_ret
        exact ⟨by rw [HV.out]; rfl, HW0.out.drewN _⟩
    case true =>
      cases d
      case false =>
        go_wp2_with fail
        go_ret
        exact ⟨by rw [HV.out]; rfl, HW0.out.drewN _⟩
      case true =>
        go_wp2_with fail
        go_ret
        exact ⟨by rw [HV.out]; rfl, HW0.out.drewN _⟩
  · have HV := Lib.hid (show okIns l.wn ⟨4, rg, ad, vl, sr, od, ct⟩ = true by unfold okIns; simp)
    go_wp2_with fail
    go_ret
    exact ⟨by rw [HV.out]; rfl, HW0.out.drewN _⟩
  · have HV := Lib.hid (show okIns l.wn ⟨5, rg, ad, vl, sr, od, ct⟩ = r by unfold okIns; simp [HRr.out])
    go_wp2_with fail
    go_ret
    exact ⟨by rw [HV.out]; rfl, HW0.out.drewN _⟩
  · have HV := Lib.hid (show okIns l.wn ⟨6, rg, ad, vl, sr, od, ct⟩ = r by unfold okIns; simp [HRr.out])
    go_wp2_with fail
    go_ret
    exact ⟨by rw [HV.out]; rfl, HW0.out.drewN _⟩
  · have HV := Lib.hid (show okIns l.wn ⟨7, rg, ad, vl, sr, od, ct⟩ = (r && u) by unfold okIns; simp [HRr.out, HUu.out])
    cases r
    case false =>
      go_wp2_with fail
      go_ret
      exact ⟨by rw [HV.out]; rfl, HW0.out.drewN _⟩
    case true =>
      go_wp2_with fail
      refine (HU.out _).mono ?_
      rintro e wq ⟨rfl, hwq⟩
      replace hwq := hwq.symm
      subst hwq
      go_wp2_with fail
      go_ret
      exact ⟨by rw [HV.out]; rfl, HW0.out.drewN _⟩
  · have HV := Lib.hid (show okIns l.wn ⟨kd, rg, ad, vl, sr, od, ct⟩ = false by unfold okIns; simp [hn])
    have e1 : (kd == 1) = false := by simp [hn]
    have e2 : (kd == 2) = false := by simp [hn]
    have e3 : (kd == 3) = false := by simp [hn]
    have e4 : (kd == 4) = false := by simp [hn]
    have e5 : (kd == 5) = false := by simp [hn]
    have e6 : (kd == 6) = false := by simp [hn]
    have e7 : (kd == 7) = false := by simp [hn]
    go_wp2_with fail
    go_ret
    exact ⟨by rw [HV.out]; rfl, HW0.out.drewN _⟩
end Go.Proofs.Ytgbopmgeicokoaa
