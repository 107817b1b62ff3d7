/-
  locks.Stays.
-/
import Derived.Test.YtjnmlgfkiebkgaaLso
namespace Go.Proofs.Ytjnmlgfkiebkgaa
open Go.RowKit
set_option linter.unusedVariables false
set_option linter.unusedSimpArgs false

def Cal.isStay (x : Cal) : Bool := (x.op == 120 || x.op == 122) && x.fin != -1
def Cal.leave (x : Cal) : Int := bif x.op == 122 then 123 else 121
def Cal.leaves (x y : Cal) : Bool := y.th == x.th && y.op == x.leave
def tilOf (x : Cal) (r : List Cal) : Int := match r.find? x.leaves with | some y => y.beg | none => -1
def stOf (x : Cal) (r : List Cal) : St := ⟨x.th, x.op == 122, x.fin, tilOf x r⟩
def stays0 : List Cal → List St
  | [] => []
  | x :: r => bif x.isStay then stOf x r :: stays0 r else stays0 r
theorem stays0_len (l : List Cal) : (stays0 l).length ≤ l.length := by
  induction l with
  | nil => exact Nat.le_refl _
  | cons x r ih =>
    rw [stays0]
    cases x.isStay
    · simp only [cond_false, List.length_cons]; omega
    · simp only [cond_true, List.length_cons]; omega
theorem styVals_snoc (l : List St) (s : St) : styVals l ++ styL s = styVals (l ++ [s]) := by simp [styVals]
def StaysR (m : Nat) (l' : List St) (w : World) (e : Ending) (w' : World) : Prop :=
  ∃ A c, e = .returned (.tuple #[.slice A m c, .int .i64 0]) ∧ w'.ownsRow w.heap.size 68 4 (.slice A m c) m (styVals l') ∧ Below w.heap.size w w'
theorem info_sty : (Try.prog.info? 68).map (fun i => (i.zero, i.size, i.bytes)) = some (some (.agg #[.int .i64 0, .bool false, .int .i64 0, .int .i64 0]), 4, 32) := by kernel_rfl
set_option maxRecDepth 100000 in
set_option maxHeartbeats 4000000 in
theorem stays_any (T k : Int) (hk : rangeB T k 1 7 = true) (calls : List Cal) (Ac At As Aw : Option Addr) (kc nt kt ns ks nw kw : Nat) (w : World) (h : Sl w w.heap.size 9 Ac calls.length (calVals calls)) (hn : calls.length ≤ 1954687338211) (hkc : calls.length ≤ kc ∧ kc ≤ maxLen) (l' : List St) (hs : styS (stays0 calls) l') :
    Calls Try.prog 17 #[.agg #[.int .i64 T, .int .i64 k], .agg #[.slice Ac calls.length kc, .slice At nt kt, .slice As ns ks, .slice Aw nw kw]] w (StaysR (stays0 calls).length l' w) := by
  obtain ⟨i1, hi1, hi1z, hi1s, hi1b⟩ := info_parts info_sty
  have HS := Lib.hid h
  have HO := Lib.hid hs
  have HK := Lib.hid hk
  clear h hs hk
  go_enter Try.func17, Try.ntmps17
  go_wp2_with fail
  have hb0 : Below w.heap.size w ((w.alloc (.cells #[.int .i64 T, .int .i64 k] 24)).alloc (.cells #[.slice Ac calls.length kc, .slice At nt kt, .slice As ns ks, .slice Aw nw kw] 39)) := ((Below.refl _ _).alloc (Nat.le_refl _) _).alloc (by simp) _
  have hr0 : Blk ((w.alloc (.cells #[.int .i64 T, .int .i64 k] 24)).alloc (.cells #[.slice Ac calls.length kc, .slice At nt kt, .slice As ns ks, .slice Aw nw kw] 39)) (w.heap.size + 1) 39 [.slice Ac calls.length kc, .slice At nt kt, .slice As ns ks, .slice Aw nw kw] := new1_blk' _ _ _ _
  generalize (w.alloc (.cells #[.int .i64 T, .int .i64 k] 24)).alloc (.cells #[.slice Ac calls.length kc, .slice At nt kt, .slice As ns ks, .slice Aw nw kw] 39) = w0 at hb0 hr0 ⊢
  refine (locksck_any T k w0).mono ?_
  rintro e w1 ⟨rfl, hb1⟩
  rw [HK.out, if_pos rfl]
  have hrl := hr0.lt
  have hz0 := hb0.size
  have hr1 := hr0.below hb1 hrl
  have hz1 := hb1.size
  have HR1 := Lib.hid hr1
  have HB1 : Hid (Below w.heap.size w w1) := hb0.trans (hb1.mono hz0)
  have r0 : w1.cell? ⟨w.heap.size + 1, 0, none⟩ = some (.slice Ac calls.length kc) := hr1.cell rfl
  clear hr1 hb1 hr0 hb0
  go_wp2_with fail
  go_loopg [7, 22] calls.length (fun gk s7 i wr => ∃ (j : Nat) (A7 : Option Addr) (k7 : Nat) (o : List St), j + gk = calls.length ∧ i = .int .i64 j ∧ s7 = .slice A7 o.length k7 ∧ Hid (Below w1.heap.size w1 wr) ∧ Hid (wr.ownsRow w1.heap.size 68 4 s7 o.length (styVals o)) ∧ Hid (o ++ stays0 (calls.drop j) = stays0 calls))
  case atStart => exact ⟨0, none, 0, [], by omega, rfl, rfl, Below.refl _ _, World.ownsRow_nil _ _ _ _, by show _ = _; simp⟩
  case round =>
    obtain ⟨j, A7, k7, o, hj, rfl, rfl, hB, hO7, hD⟩ := hrel
    by_cases hlt : j < calls.length
    · obtain ⟨x, hx⟩ := at_lt hlt
      have e1 : (j : Int) < calls.length := by omega
      have e0 : (0 : Int) ≤ j := by omega
      have hbw : Below w.heap.size w wr := HB1.out.trans (hB.out.mono (by omega))
      have hs := (HS.out.below hbw).2 (by omega)
      obtain ⟨b, f, hA, hbl, hcell⟩ := hs
      have v0 : wr.cell? ⟨b, f + j * 9, none⟩ = some (.int .i64 x.th) := by have := hcell (j * 9 + 0) _ (calVals_get hx 0 (by omega)); simpa using this
      have v1 : wr.cell? ⟨b, f + j * 9 + 1, none⟩ = some (.int .i64 x.op) := by have := hcell (j * 9 + 1) _ (calVals_get hx 1 (by omega)); rw [← Nat.add_assoc] at this; exact this
      have v2 : wr.cell? ⟨b, f + j * 9 + 2, none⟩ = some (.int .i64 x.arg) := by have := hcell (j * 9 + 2) _ (calVals_get hx 2 (by omega)); rw [← Nat.add_assoc] at this; exact this
      have v3 : wr.cell? ⟨b, f + j * 9 + 3, none⟩ = some (.int .i64 x.dat) := by have := hcell (j * 9 + 3) _ (calVals_get hx 3 (by omega)); rw [← Nat.add_assoc] at this; exact this
      have v4 : wr.cell? ⟨b, f + j * 9 + 4, none⟩ = some (.int .i64 x.beg) := by have := hcell (j * 9 + 4) _ (calVals_get hx 4 (by omega)); rw [← Nat.add_assoc] at this; exact this
      have v5 : wr.cell? ⟨b, f + j * 9 + 5, none⟩ = some (.int .i64 x.fin) := by have := hcell (j * 9 + 5) _ (calVals_get hx 5 (by omega)); rw [← Nat.add_assoc] at this; exact this
      have v6 : wr.cell? ⟨b, f + j * 9 + 6, none⟩ = some (.int .i64 x.pt) := by have := hcell (j * 9 + 6) _ (calVals_get hx 6 (by omega)); rw [← Nat.add_assoc] at this; exact this
      have v7 : wr.cell? ⟨b, f + j * 9 + 7, none⟩ = some (.int .i64 x.ak) := by have := hcell (j * 9 + 7) _ (calVals_get hx 7 (by omega)); rw [← Nat.add_assoc] at this; exact this
      have v8 : wr.cell? ⟨b, f + j * 9 + 8, none⟩ = some (.int .i64 x.av) := by have := hcell (j * 9 + 8) _ (calVals_get hx 8 (by omega)); rw [← Nat.add_assoc] at this; exact this
      have hzr := hB.out.size
      have hD2 : calls.drop j = x :: calls.drop (j + 1) := drop_cons hx
      have HD2 := Lib.hid hD2
      have HX := Lib.hid hx
      subst hA
      have hbe : b < wr.heap.size := by omega
      clear hcell hx hbw hD2
      by_cases c1 : x.op = 120 ∨ x.op = 122
      · by_cases c2 : x.fin = -1
        · have f1 : (x.fin == -1) = true := by simp [c2]
          have HI : Hid (x.isStay = false) := by show _ = _; simp [Cal.isStay, c2]
          rcases c1 with c1 | c1
          · have g1 : (x.op != 120) = false := by simp [c1]
            go_wp2_with fail
            go_roundg (gk - 1)
            case measure => omega
            case rel => exact ⟨j + 1, A7, k7, o, by omega, by go_num, rfl, hB.out.alloc hzr _, hO7.out.below ((Below.refl _ _).alloc (Nat.le_refl _) _), by show _ = _; rw [← hD.out, HD2.out, stays0, HI.out]; rfl⟩
          · have g1 : (x.op != 120) = true := by simp [c1]
            have g2 : (x.op != 122) = false := by simp [c1]
            go_wp2_with fail
            go_roundg (gk - 1)
            case measure => omega
            case rel => exact ⟨j + 1, A7, k7, o, by omega, by go_num, rfl, hB.out.alloc hzr _, hO7.out.below ((Below.refl _ _).alloc (Nat.le_refl _) _), by show _ = _; rw [← hD.out, HD2.out, stays0, HI.out]; rfl⟩
        · have f1 : (x.fin == -1) = false := by simp [c2]
          have hrr := HR1.out.below hB.out (by omega)
          have rr : wr.cell? ⟨w.heap.size + 1, 0, none⟩ = some (.slice (some ⟨b, f, none⟩) calls.length kc) := hrr.cell rfl
          have q1 : IntKind.i64.wrap ((j : Int) + 1) = (j : Int) + 1 := IntWalk.i64_in _ (by omega)
          have q2 : (0 : Int) ≤ (j : Int) + 1 := by omega
          have q3 : ((j : Int) + 1).toNat = j + 1 := by omega
          have q4 : j + 1 ≤ calls.length := by omega
          have q5 : (j : Int) + 1 ≤ calls.length := by omega
          have q6 : (calls.length : Int) ≤ kc := by omega
          have q7 := hkc.1
          have q8 : j + 1 ≤ kc := by omega
          have q9 : (j : Int) + 1 ≤ kc := by omega
          have hrw : w.heap.size + 1 < wr.heap.size := by omega
          clear hrr
          have hol : o.length ≤ calls.length := by have h9 := congrArg List.length hD.out; rw [List.length_append] at h9; have := stays0_len calls; omega
          rcases c1 with c1 | c1
          · have HI : Hid (x.isStay = true) := by show _ = _; simp [Cal.isStay, c1, c2]
            have HLv : Hid (x.leave = 121) := by show _ = _; simp [Cal.leave, c1]
            have HSh : Hid ((x.op == 122) = false) := by show _ = _; simp [c1]
            have g1 : (x.op != 120) = false := by simp [c1]
            have g3 : (x.op == 122) = false := by simp [c1]
            go_upto_region 13 with fail
            have hc2 : Blk ((wr.alloc (.cells #[.int .i64 x.th, .int .i64 120, .int .i64 x.arg, .int .i64 x.dat, .int .i64 x.beg, .int .i64 x.fin, .int .i64 x.pt, .int .i64 x.ak, .int .i64 x.av] 62)).alloc (.cells #[.int .i64 x.th, .bool false, .int .i64 x.fin, .int .i64 (-1)] 68)) wr.heap.size 62 [.int .i64 x.th, .int .i64 120, .int .i64 x.arg, .int .i64 x.dat, .int .i64 x.beg, .int .i64 x.fin, .int .i64 x.pt, .int .i64 x.ak, .int .i64 x.av] := (Blk.new wr _ _).alloc _
            have hs2 : Blk ((wr.alloc (.cells #[.int .i64 x.th, .int .i64 120, .int .i64 x.arg, .int .i64 x.dat, .int .i64 x.beg, .int .i64 x.fin, .int .i64 x.pt, .int .i64 x.ak, .int .i64 x.av] 62)).alloc (.cells #[.int .i64 x.th, .bool false, .int .i64 x.fin, .int .i64 (-1)] 68)) (wr.heap.size + 1) 68 [.int .i64 x.th, .bool false, .int .i64 x.fin, .int .i64 (-1)] := new1_blk' _ _ _ _
            have hb2 : Below wr.heap.size wr ((wr.alloc (.cells #[.int .i64 x.th, .int .i64 120, .int .i64 x.arg, .int .i64 x.dat, .int .i64 x.beg, .int .i64 x.fin, .int .i64 x.pt, .int .i64 x.ak, .int .i64 x.av] 62)).alloc (.cells #[.int .i64 x.th, .bool false, .int .i64 x.fin, .int .i64 (-1)] 68)) := ((Below.refl _ _).alloc (Nat.le_refl _) _).alloc (by simp) _
            generalize (wr.alloc (.cells #[.int .i64 x.th, .int .i64 120, .int .i64 x.arg, .int .i64 x.dat, .int .i64 x.beg, .int .i64 x.fin, .int .i64 x.pt, .int .i64 x.ak, .int .i64 x.av] 62)).alloc (.cells #[.int .i64 x.th, .bool false, .int .i64 x.fin, .int .i64 (-1)] 68) = w2 at hc2 hs2 hb2 ⊢
            have rr2 := (hb2.cell (p := ⟨w.heap.size + 1, 0, none⟩) hrw).trans rr
            have hcl := hc2.lt
            have hsl := hs2.lt
            have HC2 := Lib.hid hc2
            have HS2 := Lib.hid hs2
            have HB2 : Hid (Below w1.heap.size w1 w2) := hB.out.trans (hb2.mono hzr)
            have HOw := Lib.hid (hO7.out.below hb2)
            have hz2 := hb2.size
            clear rr v0 v1 v2 v3 v4 v5 v6 v7 v8 hc2 hs2 hb2
            by_cases hlast : j + 1 = calls.length
            · have hnil : calls.drop (j + 1) = [] := List.drop_of_length_le (by omega)
              have hst : stOf x (calls.drop (j + 1)) = ⟨x.th, false, x.fin, -1⟩ := by rw [hnil, stOf, HSh.out]; rfl
              have HST := Lib.hid hst
              have z1 : calls.length - (j + 1) = 0 := by omega
              clear hnil hst
              have HBt : Hid (Below w1.heap.size w1 w2) := HB2.out
              have HOt := HOw
              have hzt : w1.heap.size ≤ w2.heap.size := by omega
              have e0 : w2.cell? ⟨wr.heap.size + 1, 0, none⟩ = some (.int .i64 x.th) := HS2.out.cell rfl
              have e1' : w2.cell? ⟨wr.heap.size + 1, 1, none⟩ = some (.bool false) := HS2.out.cell rfl
              have e2 : w2.cell? ⟨wr.heap.size + 1, 2, none⟩ = some (.int .i64 x.fin) := HS2.out.cell rfl
              have e3 : w2.cell? ⟨wr.heap.size + 1, 3, none⟩ = some (.int .i64 (-1)) := HS2.out.cell rfl
              clear hlast
              by_cases hkj : kc = j + 1
              · have hiff : kc = j + 1 ↔ True := iff_true_intro hkj
                clear hkj
                go_wp2_with fail
                refine wp_loop_rounds 1 ?_
                rw [rounds_succ]
                go_wp2_with (at_builtin; go_must (refine wpList_app _ rfl _ _ 41 rfl w1.heap.size 68 i1 (.agg #[.int .i64 0, .bool false, .int .i64 0, .int .i64 0]) 4 32 Try.underlying41 hi1 hi1z hi1s hi1b rfl (by decide) (.slice A7 o.length k7) o.length (styVals o) rfl (HOt.out.alloc _) (w2.heap.size + 1) (some ⟨w2.heap.size, 0, none⟩) 1 1 (styL ⟨x.th, false, x.fin, -1⟩) rfl (((Blk.new w2 68 _).sl rfl).up (by simp)) (styL_one _) (o.length + 1) rfl _ rfl _ rfl (by simp only [maxLen]; omega) (by omega) (by rw [World.size_alloc]; omega) ?_; intro A9 k9 w9 hown9 hg9 hat9 hk9 hk9'))
                go_roundg (gk - 1)
                case measure => omega
                case rel =>
                  refine ⟨j + 1, A9, k9, o ++ [⟨x.th, false, x.fin, -1⟩], by omega, by go_num, by rw [List.length_append]; rfl, ?_, ?_, ?_⟩
                  · exact (HBt.out.alloc hzt _).grown hg9 (by rw [World.size_alloc]; omega) (fun r hr => (HOt.out.lt r hr).1)
                  · show World.ownsRow _ _ _ _ _ _ _
                    rw [← styVals_snoc, List.length_append]
                    exact hown9
                  · show _ = _
                    rw [← hD.out, HD2.out, stays0, HI.out, cond_true, List.append_assoc]
                    exact congrArg (o ++ ·) (congrArg (· :: _) HST.out.symm)
              · go_wp2_with fail
                refine wp_loop_rounds 1 ?_
                rw [rounds_succ]
                go_wp2_with (at_builtin; go_must (refine wpList_app _ rfl _ _ 41 rfl w1.heap.size 68 i1 (.agg #[.int .i64 0, .bool false, .int .i64 0, .int .i64 0]) 4 32 Try.underlying41 hi1 hi1z hi1s hi1b rfl (by decide) (.slice A7 o.length k7) o.length (styVals o) rfl (HOt.out.alloc _) (w2.heap.size + 1) (some ⟨w2.heap.size, 0, none⟩) 1 1 (styL ⟨x.th, false, x.fin, -1⟩) rfl (((Blk.new w2 68 _).sl rfl).up (by simp)) (styL_one _) (o.length + 1) rfl _ rfl _ rfl (by simp only [maxLen]; omega) (by omega) (by rw [World.size_alloc]; omega) ?_; intro A9 k9 w9 hown9 hg9 hat9 hk9 hk9'))
                go_roundg (gk - 1)
                case measure => omega
                case rel =>
                  refine ⟨j + 1, A9, k9, o ++ [⟨x.th, false, x.fin, -1⟩], by omega, by go_num, by rw [List.length_append]; rfl, ?_, ?_, ?_⟩
                  · exact (HBt.out.alloc hzt _).grown hg9 (by rw [World.size_alloc]; omega) (fun r hr => (HOt.out.lt r hr).1)
                  · show World.ownsRow _ _ _ _ _ _ _
                    rw [← styVals_snoc, List.length_append]
                    exact hown9
                  · show _ = _
                    rw [← hD.out, HD2.out, stays0, HI.out, cond_true, List.append_assoc]
                    exact congrArg (o ++ ·) (congrArg (· :: _) HST.out.symm)
            · have hne : ¬ kc = j + 1 := by omega
              go_wp2_with fail
              obtain ⟨wo, rfl⟩ : ∃ wo : World, wo = wr := ⟨_, rfl⟩
              obtain ⟨go, rfl⟩ : ∃ go : Nat, go = gk := ⟨_, rfl⟩
              go_loopg [57] (calls.length - (j + 1)) (fun g2 i wq => ∃ q : Nat, q + g2 = calls.length - (j + 1) ∧ i = .int .i64 q ∧ Hid (Below w2.heap.size w2 wq) ∧ Hid ((calls.drop (j + 1)).find? x.leaves = (calls.drop (j + 1 + q)).find? x.leaves))
              case atStart => exact ⟨0, by omega, rfl, Below.refl _ _, rfl⟩
              case round =>
                obtain ⟨q, hq, rfl, hBq, hF⟩ := hrel
                have hzq := hBq.out.size
                have hc3 := HC2.out.below hBq.out hcl
                have hs3 := HS2.out.below hBq.out hsl
                have hBt0 : Hid (Below w1.heap.size w1 wr) := HB2.out.trans (hBq.out.mono (by omega))
                have HOq := Lib.hid (HOw.out.below hBq.out)
                have hcl3 := hc3.lt
                have hsl3 := hs3.lt
                by_cases hltq : j + 1 + q < calls.length
                · obtain ⟨y, hy⟩ := at_lt hltq
                  have p1 : (q : Int) < (calls.length - (j + 1) : Nat) := by omega
                  have p0 : (0 : Int) ≤ q := by omega
                  have hs := (HS.out.below (HB1.out.trans (hBt0.out.mono (by omega)))).2 (by omega)
                  obtain ⟨b', f', hA', hbl', hcell⟩ := hs
                  injection hA' with hA'
                  injection hA' with hA1 hA2
                  subst hA1 hA2
                  have v0 : wr.cell? ⟨b, f + (j + 1) * 9 + q * 9, none⟩ = some (.int .i64 y.th) := by have := hcell ((j + 1 + q) * 9 + 0) _ (calVals_get hy 0 (by omega)); rwa [show f + ((j + 1 + q) * 9 + 0) = f + (j + 1) * 9 + q * 9 by omega] at this
                  have v1 : wr.cell? ⟨b, f + (j + 1) * 9 + q * 9 + 1, none⟩ = some (.int .i64 y.op) := by have := hcell ((j + 1 + q) * 9 + 1) _ (calVals_get hy 1 (by omega)); rwa [show f + ((j + 1 + q) * 9 + 1) = f + (j + 1) * 9 + q * 9 + 1 by omega] at this
                  have v2 : wr.cell? ⟨b, f + (j + 1) * 9 + q * 9 + 2, none⟩ = some (.int .i64 y.arg) := by have := hcell ((j + 1 + q) * 9 + 2) _ (calVals_get hy 2 (by omega)); rwa [show f + ((j + 1 + q) * 9 + 2) = f + (j + 1) * 9 + q * 9 + 2 by omega] at this
                  have v3 : wr.cell? ⟨b, f + (j + 1) * 9 + q * 9 + 3, none⟩ = some (.int .i64 y.dat) := by have := hcell ((j + 1 + q) * 9 + 3) _ (calVals_get hy 3 (by omega)); rwa [show f + ((j + 1 + q) * 9 + 3) = f + (j + 1) * 9 + q * 9 + 3 by omega] at this
                  have v4 : wr.cell? ⟨b, f + (j + 1) * 9 + q * 9 + 4, none⟩ = some (.int .i64 y.beg) := by have := hcell ((j + 1 + q) * 9 + 4) _ (calVals_get hy 4 (by omega)); rwa [show f + ((j + 1 + q) * 9 + 4) = f + (j + 1) * 9 + q * 9 + 4 by omega] at this
                  have v5 : wr.cell? ⟨b, f + (j + 1) * 9 + q * 9 + 5, none⟩ = some (.int .i64 y.fin) := by have := hcell ((j + 1 + q) * 9 + 5) _ (calVals_get hy 5 (by omega)); rwa [show f + ((j + 1 + q) * 9 + 5) = f + (j + 1) * 9 + q * 9 + 5 by omega] at this
                  have v6 : wr.cell? ⟨b, f + (j + 1) * 9 + q * 9 + 6, none⟩ = some (.int .i64 y.pt) := by have := hcell ((j + 1 + q) * 9 + 6) _ (calVals_get hy 6 (by omega)); rwa [show f + ((j + 1 + q) * 9 + 6) = f + (j + 1) * 9 + q * 9 + 6 by omega] at this
                  have v7 : wr.cell? ⟨b, f + (j + 1) * 9 + q * 9 + 7, none⟩ = some (.int .i64 y.ak) := by have := hcell ((j + 1 + q) * 9 + 7) _ (calVals_get hy 7 (by omega)); rwa [show f + ((j + 1 + q) * 9 + 7) = f + (j + 1) * 9 + q * 9 + 7 by omega] at this
                  have v8 : wr.cell? ⟨b, f + (j + 1) * 9 + q * 9 + 8, none⟩ = some (.int .i64 y.av) := by have := hcell ((j + 1 + q) * 9 + 8) _ (calVals_get hy 8 (by omega)); rwa [show f + ((j + 1 + q) * 9 + 8) = f + (j + 1) * 9 + q * 9 + 8 by omega] at this
                  have c0 : wr.cell? ⟨wo.heap.size, 0, none⟩ = some (.int .i64 x.th) := hc3.cell rfl
                  have s0 : wr.cell? ⟨wo.heap.size + 1, 0, none⟩ = some (.int .i64 x.th) := hs3.cell rfl
                  have s1 : wr.cell? ⟨wo.heap.size + 1, 1, none⟩ = some (.bool false) := hs3.cell rfl
                  have s2 : wr.cell? ⟨wo.heap.size + 1, 2, none⟩ = some (.int .i64 x.fin) := hs3.cell rfl
                  have s3 : wr.cell? ⟨wo.heap.size + 1, 3, none⟩ = some (.int .i64 (-1)) := hs3.cell rfl
                  have s9 := hs3.frozen 3
                  have hbq : b < wr.heap.size := by omega
                  have HC3 := Lib.hid hc3
                  have HS3 := Lib.hid hs3
                  have HD3 : Hid ((calls.drop (j + 1 + q)) = y :: calls.drop (j + 1 + q + 1)) := drop_cons hy
                  clear hcell hy hc3 hs3
                  by_cases m1 : y.th = x.th
                  · have k1 : (y.th == x.th) = true := by simp [m1]
                    by_cases m2 : y.op = 121
                    · have k2 : (y.op == 121) = true := by simp [m2]
                      go_upto_region 19 with fail
                      have hs4 : Blk ((wr.setCell ⟨wo.heap.size + 1, 3, none⟩ (.int .i64 y.beg)).alloc (.cells #[.int .i64 x.th, .int .i64 121, .int .i64 y.arg, .int .i64 y.dat, .int .i64 y.beg, .int .i64 y.fin, .int .i64 y.pt, .int .i64 y.ak, .int .i64 y.av] 62)) (wo.heap.size + 1) 68 [.int .i64 x.th, .bool false, .int .i64 x.fin, .int .i64 y.beg] := (HS3.out.set_ 3 _).alloc _
                      have HBt : Hid (Below w1.heap.size w1 ((wr.setCell ⟨wo.heap.size + 1, 3, none⟩ (.int .i64 y.beg)).alloc (.cells #[.int .i64 x.th, .int .i64 121, .int .i64 y.arg, .int .i64 y.dat, .int .i64 y.beg, .int .i64 y.fin, .int .i64 y.pt, .int .i64 y.ak, .int .i64 y.av] 62))) := (hBt0.out.setCell (by dsimp only; omega) _).alloc (by simp; omega) _
                      have HOt : Hid (((wr.setCell ⟨wo.heap.size + 1, 3, none⟩ (.int .i64 y.beg)).alloc (.cells #[.int .i64 x.th, .int .i64 121, .int .i64 y.arg, .int .i64 y.dat, .int .i64 y.beg, .int .i64 y.fin, .int .i64 y.pt, .int .i64 y.ak, .int .i64 y.av] 62)).ownsRow w1.heap.size 68 4 (.slice A7 o.length k7) o.length (styVals o)) := (own_setf HOq.out (fun e => by have := (hO7.out.lt _ e.symm).2; dsimp only at this; omega) _).alloc _
                      have hzt : w1.heap.size ≤ ((wr.setCell ⟨wo.heap.size + 1, 3, none⟩ (.int .i64 y.beg)).alloc (.cells #[.int .i64 x.th, .int .i64 121, .int .i64 y.arg, .int .i64 y.dat, .int .i64 y.beg, .int .i64 y.fin, .int .i64 y.pt, .int .i64 y.ak, .int .i64 y.av] 62)).heap.size := by have := hBt0.out.size; simp; omega
                      generalize (wr.setCell ⟨wo.heap.size + 1, 3, none⟩ (.int .i64 y.beg)).alloc (.cells #[.int .i64 x.th, .int .i64 121, .int .i64 y.arg, .int .i64 y.dat, .int .i64 y.beg, .int .i64 y.fin, .int .i64 y.pt, .int .i64 y.ak, .int .i64 y.av] 62) = w5 at hs4 HBt HOt hzt ⊢
                      have e0' : w5.cell? ⟨wo.heap.size + 1, 0, none⟩ = some (.int .i64 x.th) := hs4.cell rfl
                      have e1' : w5.cell? ⟨wo.heap.size + 1, 1, none⟩ = some (.bool false) := hs4.cell rfl
                      have e2 : w5.cell? ⟨wo.heap.size + 1, 2, none⟩ = some (.int .i64 x.fin) := hs4.cell rfl
                      have e3 : w5.cell? ⟨wo.heap.size + 1, 3, none⟩ = some (.int .i64 y.beg) := hs4.cell rfl
                      have hst : stOf x (calls.drop (j + 1)) = ⟨x.th, false, x.fin, y.beg⟩ := by
                        rw [stOf, HSh.out, tilOf, hF.out, HD3.out, List.find?_cons_of_pos (by simp [Cal.leaves, HLv.out, m1, m2])]
                      have HST := Lib.hid hst
                      clear hst hs4 v0 v1 v2 v3 v4 v5 v6 v7 v8 c0 s0 s1 s2 s3 s9 m1 m2 k1 k2
                      go_wp2_with (at_builtin; go_must (refine wpList_app _ rfl _ _ 41 rfl w1.heap.size 68 i1 (.agg #[.int .i64 0, .bool false, .int .i64 0, .int .i64 0]) 4 32 Try.underlying41 hi1 hi1z hi1s hi1b rfl (by decide) (.slice A7 o.length k7) o.length (styVals o) rfl (HOt.out.alloc _) (w5.heap.size + 1) (some ⟨w5.heap.size, 0, none⟩) 1 1 (styL ⟨x.th, false, x.fin, y.beg⟩) rfl (((Blk.new w5 68 _).sl rfl).up (by simp)) (styL_one _) (o.length + 1) rfl _ rfl _ rfl (by simp only [maxLen]; omega) (by omega) (by rw [World.size_alloc]; omega) ?_; intro A9 k9 w9 hown9 hg9 hat9 hk9 hk9'))
                      go_roundg (go - 1)
                      case measure => omega
                      case rel =>
                        refine ⟨j + 1, A9, k9, o ++ [⟨x.th, false, x.fin, y.beg⟩], by omega, by go_num, by rw [List.length_append]; rfl, ?_, ?_, ?_⟩
                        · exact (HBt.out.alloc hzt _).grown hg9 (by rw [World.size_alloc]; omega) (fun r hr => (HOt.out.lt r hr).1)
                        · show World.ownsRow _ _ _ _ _ _ _
                          rw [← styVals_snoc, List.length_append]
                          exact hown9
                        · show _ = _
                          rw [← hD.out, HD2.out, stays0, HI.out, cond_true, List.append_assoc]
                          exact congrArg (o ++ ·) (congrArg (· :: _) HST.out.symm)
                    · have k2 : (y.op == 121) = false := by simp [m2]
                      go_wp2_with fail
                      go_roundg (gk - 1)
                      case measure => omega
                      case rel =>
                        refine ⟨q + 1, by omega, by go_num, hBq.out.alloc hzq _, ?_⟩
                        show _ = _
                        rw [hF.out, HD3.out, List.find?_cons_of_neg (by simp [Cal.leaves, HLv.out, m2])]
                        rfl
                  · have k1 : (y.th == x.th) = false := by simp [m1]
                    go_wp2_with fail
                    go_roundg (gk - 1)
                    case measure => omega
                    case rel =>
                      refine ⟨q + 1, by omega, by go_num, hBq.out.alloc hzq _, ?_⟩
                      show _ = _
                      rw [hF.out, HD3.out, List.find?_cons_of_neg (by simp [Cal.leaves, m1])]
                      rfl
                · obtain rfl : q = calls.length - (j + 1) := by omega
                  go_upto_region 19 with fail
                  have e0' : wr.cell? ⟨wo.heap.size + 1, 0, none⟩ = some (.int .i64 x.th) := hs3.cell rfl
                  have e1' : wr.cell? ⟨wo.heap.size + 1, 1, none⟩ = some (.bool false) := hs3.cell rfl
                  have e2 : wr.cell? ⟨wo.heap.size + 1, 2, none⟩ = some (.int .i64 x.fin) := hs3.cell rfl
                  have e3 : wr.cell? ⟨wo.heap.size + 1, 3, none⟩ = some (.int .i64 (-1)) := hs3.cell rfl
                  have hnil : calls.drop (j + 1 + (calls.length - (j + 1))) = [] := List.drop_of_length_le (by omega)
                  have hst : stOf x (calls.drop (j + 1)) = ⟨x.th, false, x.fin, -1⟩ := by
                    rw [stOf, HSh.out, tilOf, hF.out, hnil]
                    rfl
                  have HST := Lib.hid hst
                  have HBt := hBt0
                  have HOt := HOq
                  have hzt : w1.heap.size ≤ wr.heap.size := by omega
                  clear hst hnil hs3 hc3
                  go_wp2_with (at_builtin; go_must (refine wpList_app _ rfl _ _ 41 rfl w1.heap.size 68 i1 (.agg #[.int .i64 0, .bool false, .int .i64 0, .int .i64 0]) 4 32 Try.underlying41 hi1 hi1z hi1s hi1b rfl (by decide) (.slice A7 o.length k7) o.length (styVals o) rfl (HOt.out.alloc _) (wr.heap.size + 1) (some ⟨wr.heap.size, 0, none⟩) 1 1 (styL ⟨x.th, false, x.fin, -1⟩) rfl (((Blk.new wr 68 _).sl rfl).up (by simp)) (styL_one _) (o.length + 1) rfl _ rfl _ rfl (by simp only [maxLen]; omega) (by omega) (by rw [World.size_alloc]; omega) ?_; intro A9 k9 w9 hown9 hg9 hat9 hk9 hk9'))
                  go_roundg (go - 1)
                  case measure => omega
                  case rel =>
                    refine ⟨j + 1, A9, k9, o ++ [⟨x.th, false, x.fin, -1⟩], by omega, by go_num, by rw [List.length_append]; rfl, ?_, ?_, ?_⟩
                    · exact (HBt.out.alloc hzt _).grown hg9 (by rw [World.size_alloc]; omega) (fun r hr => (HOt.out.lt r hr).1)
                    · show World.ownsRow _ _ _ _ _ _ _
                      rw [← styVals_snoc, List.length_append]
                      exact hown9
                    · show _ = _
                      rw [← hD.out, HD2.out, stays0, HI.out, cond_true, List.append_assoc]
                      exact congrArg (o ++ ·) (congrArg (· :: _) HST.out.symm)
          · have HI : Hid (x.isStay = true) := by show _ = _; simp [Cal.isStay, c1, c2]
            have HLv : Hid (x.leave = 123) := by show _ = _; simp [Cal.leave, c1]
            have HSh : Hid ((x.op == 122) = true) := by show _ = _; simp [c1]
            have g1 : (x.op != 120) = true := by simp [c1]
            have g2 : (x.op != 122) = false := by simp [c1]
            have g3 : (x.op == 122) = true := by simp [c1]
            go_upto_region 13 with fail
            have hc2 : Blk ((wr.alloc (.cells #[.int .i64 x.th, .int .i64 122, .int .i64 x.arg, .int .i64 x.dat, .int .i64 x.beg, .int .i64 x.fin, .int .i64 x.pt, .int .i64 x.ak, .int .i64 x.av] 62)).alloc (.cells #[.int .i64 x.th, .bool true, .int .i64 x.fin, .int .i64 (-1)] 68)) wr.heap.size 62 [.int .i64 x.th, .int .i64 122, .int .i64 x.arg, .int .i64 x.dat, .int .i64 x.beg, .int .i64 x.fin, .int .i64 x.pt, .int .i64 x.ak, .int .i64 x.av] := (Blk.new wr _ _).alloc _
            have hs2 : Blk ((wr.alloc (.cells #[.int .i64 x.th, .int .i64 122, .int .i64 x.arg, .int .i64 x.dat, .int .i64 x.beg, .int .i64 x.fin, .int .i64 x.pt, .int .i64 x.ak, .int .i64 x.av] 62)).alloc (.cells #[.int .i64 x.th, .bool true, .int .i64 x.fin, .int .i64 (-1)] 68)) (wr.heap.size + 1) 68 [.int .i64 x.th, .bool true, .int .i64 x.fin, .int .i64 (-1)] := new1_blk' _ _ _ _
            have hb2 : Below wr.heap.size wr ((wr.alloc (.cells #[.int .i64 x.th, .int .i64 122, .int .i64 x.arg, .int .i64 x.dat, .int .i64 x.beg, .int .i64 x.fin, .int .i64 x.pt, .int .i64 x.ak, .int .i64 x.av] 62)).alloc (.cells #[.int .i64 x.th, .bool true, .int .i64 x.fin, .int .i64 (-1)] 68)) := ((Below.refl _ _).alloc (Nat.le_refl _) _).alloc (by simp) _
            generalize (wr.alloc (.cells #[.int .i64 x.th, .int .i64 122, .int .i64 x.arg, .int .i64 x.dat, .int .i64 x.beg, .int .i64 x.fin, .int .i64 x.pt, .int .i64 x.ak, .int .i64 x.av] 62)).alloc (.cells #[.int .i64 x.th, .bool true, .int .i64 x.fin, .int .i64 (-1)] 68) = w2 at hc2 hs2 hb2 ⊢
            have rr2 := (hb2.cell (p := ⟨w.heap.size + 1, 0, none⟩) hrw).trans rr
            have hcl := hc2.lt
            have hsl := hs2.lt
            have HC2 := Lib.hid hc2
            have HS2 := Lib.hid hs2
            have HB2 : Hid (Below w1.heap.size w1 w2) := hB.out.trans (hb2.mono hzr)
            have HOw := Lib.hid (hO7.out.below hb2)
            have hz2 := hb2.size
            clear rr v0 v1 v2 v3 v4 v5 v6 v7 v8 hc2 hs2 hb2
            by_cases hlast : j + 1 = calls.length
            · have hnil : calls.drop (j + 1) = [] := List.drop_of_length_le (by omega)
              have hst : stOf x (calls.drop (j + 1)) = ⟨x.th, true, x.fin, -1⟩ := by rw [hnil, stOf, HSh.out]; rfl
              have HST := Lib.hid hst
              have z1 : calls.length - (j + 1) = 0 := by omega
              clear hnil hst
              have HBt : Hid (Below w1.heap.size w1 w2) := HB2.out
              have HOt := HOw
              have hzt : w1.heap.size ≤ w2.heap.size := by omega
              have e0 : w2.cell? ⟨wr.heap.size + 1, 0, none⟩ = some (.int .i64 x.th) := HS2.out.cell rfl
              have e1' : w2.cell? ⟨wr.heap.size + 1, 1, none⟩ = some (.bool true) := HS2.out.cell rfl
              have e2 : w2.cell? ⟨wr.heap.size + 1, 2, none⟩ = some (.int .i64 x.fin) := HS2.out.cell rfl
              have e3 : w2.cell? ⟨wr.heap.size + 1, 3, none⟩ = some (.int .i64 (-1)) := HS2.out.cell rfl
              clear hlast
              by_cases hkj : kc = j + 1
              · have hiff : kc = j + 1 ↔ True := iff_true_intro hkj
                clear hkj
                go_wp2_with fail
                refine wp_loop_rounds 1 ?_
                rw [rounds_succ]
                go_wp2_with (at_builtin; go_must (refine wpList_app _ rfl _ _ 41 rfl w1.heap.size 68 i1 (.agg #[.int .i64 0, .bool false, .int .i64 0, .int .i64 0]) 4 32 Try.underlying41 hi1 hi1z hi1s hi1b rfl (by decide) (.slice A7 o.length k7) o.length (styVals o) rfl (HOt.out.alloc _) (w2.heap.size + 1) (some ⟨w2.heap.size, 0, none⟩) 1 1 (styL ⟨x.th, true, x.fin, -1⟩) rfl (((Blk.new w2 68 _).sl rfl).up (by simp)) (styL_one _) (o.length + 1) rfl _ rfl _ rfl (by simp only [maxLen]; omega) (by omega) (by rw [World.size_alloc]; omega) ?_; intro A9 k9 w9 hown9 hg9 hat9 hk9 hk9'))
                go_roundg (gk - 1)
                case measure => omega
                case rel =>
                  refine ⟨j + 1, A9, k9, o ++ [⟨x.th, true, x.fin, -1⟩], by omega, by go_num, by rw [List.length_append]; rfl, ?_, ?_, ?_⟩
                  · exact (HBt.out.alloc hzt _).grown hg9 (by rw [World.size_alloc]; omega) (fun r hr => (HOt.out.lt r hr).1)
                  · show World.ownsRow _ _ _ _ _ _ _
                    rw [← styVals_snoc, List.length_append]
                    exact hown9
                  · show _ = _
                    rw [← hD.out, HD2.out, stays0, HI.out, cond_true, List.append_assoc]
                    exact congrArg (o ++ ·) (congrArg (· :: _) HST.out.symm)
              · go_wp2_with fail
                refine wp_loop_rounds 1 ?_
                rw [rounds_succ]
                go_wp2_with (at_builtin; go_must (refine wpList_app _ rfl _ _ 41 rfl w1.heap.size 68 i1 (.agg #[.int .i64 0, .bool false, .int .i64 0, .int .i64 0]) 4 32 Try.underlying41 hi1 hi1z hi1s hi1b rfl (by decide) (.slice A7 o.length k7) o.length (styVals o) rfl (HOt.out.alloc _) (w2.heap.size + 1) (some ⟨w2.heap.size, 0, none⟩) 1 1 (styL ⟨x.th, true, x.fin, -1⟩) rfl (((Blk.new w2 68 _).sl rfl).up (by simp)) (styL_one _) (o.length + 1) rfl _ rfl _ rfl (by simp only [maxLen]; omega) (by omega) (by rw [World.size_alloc]; omega) ?_; intro A9 k9 w9 hown9 hg9 hat9 hk9 hk9'))
                go_roundg (gk - 1)
                case measure => omega
                case rel =>
                  refine ⟨j + 1, A9, k9, o ++ [⟨x.th, true, x.fin, -1⟩], by omega, by go_num, by rw [List.length_append]; rfl, ?_, ?_, ?_⟩
                  · exact (HBt.out.alloc hzt _).grown hg9 (by rw [World.size_alloc]; omega) (fun r hr => (HOt.out.lt r hr).1)
                  · show World.ownsRow _ _ _ _ _ _ _
                    rw [← styVals_snoc, List.length_append]
                    exact hown9
                  · show _ = _
                    rw [← hD.out, HD2.out, stays0, HI.out, cond_true, List.append_assoc]
                    exact congrArg (o ++ ·) (congrArg (· :: _) HST.out.symm)
            · have hne : ¬ kc = j + 1 := by omega
              go_wp2_with fail
              obtain ⟨wo, rfl⟩ : ∃ wo : World, wo = wr := ⟨_, rfl⟩
              obtain ⟨go, rfl⟩ : ∃ go : Nat, go = gk := ⟨_, rfl⟩
              go_loopg [57] (calls.length - (j + 1)) (fun g2 i wq => ∃ q : Nat, q + g2 = calls.length - (j + 1) ∧ i = .int .i64 q ∧ Hid (Below w2.heap.size w2 wq) ∧ Hid ((calls.drop (j + 1)).find? x.leaves = (calls.drop (j + 1 + q)).find? x.leaves))
              case atStart => exact ⟨0, by omega, rfl, Below.refl _ _, rfl⟩
              case round =>
                obtain ⟨q, hq, rfl, hBq, hF⟩ := hrel
                have hzq := hBq.out.size
                have hc3 := HC2.out.below hBq.out hcl
                have hs3 := HS2.out.below hBq.out hsl
                have hBt0 : Hid (Below w1.heap.size w1 wr) := HB2.out.trans (hBq.out.mono (by omega))
                have HOq := Lib.hid (HOw.out.below hBq.out)
                have hcl3 := hc3.lt
                have hsl3 := hs3.lt
                by_cases hltq : j + 1 + q < calls.length
                · obtain ⟨y, hy⟩ := at_lt hltq
                  have p1 : (q : Int) < (calls.length - (j + 1) : Nat) := by omega
                  have p0 : (0 : Int) ≤ q := by omega
                  have hs := (HS.out.below (HB1.out.trans (hBt0.out.mono (by omega)))).2 (by omega)
                  obtain ⟨b', f', hA', hbl', hcell⟩ := hs
                  injection hA' with hA'
                  injection hA' with hA1 hA2
                  subst hA1 hA2
                  have v0 : wr.cell? ⟨b, f + (j + 1) * 9 + q * 9, none⟩ = some (.int .i64 y.th) := by have := hcell ((j + 1 + q) * 9 + 0) _ (calVals_get hy 0 (by omega)); rwa [show f + ((j + 1 + q) * 9 + 0) = f + (j + 1) * 9 + q * 9 by omega] at this
                  have v1 : wr.cell? ⟨b, f + (j + 1) * 9 + q * 9 + 1, none⟩ = some (.int .i64 y.op) := by have := hcell ((j + 1 + q) * 9 + 1) _ (calVals_get hy 1 (by omega)); rwa [show f + ((j + 1 + q) * 9 + 1) = f + (j + 1) * 9 + q * 9 + 1 by omega] at this
                  have v2 : wr.cell? ⟨b, f + (j + 1) * 9 + q * 9 + 2, none⟩ = some (.int .i64 y.arg) := by have := hcell ((j + 1 + q) * 9 + 2) _ (calVals_get hy 2 (by omega)); rwa [show f + ((j + 1 + q) * 9 + 2) = f + (j + 1) * 9 + q * 9 + 2 by omega] at this
                  have v3 : wr.cell? ⟨b, f + (j + 1) * 9 + q * 9 + 3, none⟩ = some (.int .i64 y.dat) := by have := hcell ((j + 1 + q) * 9 + 3) _ (calVals_get hy 3 (by omega)); rwa [show f + ((j + 1 + q) * 9 + 3) = f + (j + 1) * 9 + q * 9 + 3 by omega] at this
                  have v4 : wr.cell? ⟨b, f + (j + 1) * 9 + q * 9 + 4, none⟩ = some (.int .i64 y.beg) := by have := hcell ((j + 1 + q) * 9 + 4) _ (calVals_get hy 4 (by omega)); rwa [show f + ((j + 1 + q) * 9 + 4) = f + (j + 1) * 9 + q * 9 + 4 by omega] at this
                  have v5 : wr.cell? ⟨b, f + (j + 1) * 9 + q * 9 + 5, none⟩ = some (.int .i64 y.fin) := by have := hcell ((j + 1 + q) * 9 + 5) _ (calVals_get hy 5 (by omega)); rwa [show f + ((j + 1 + q) * 9 + 5) = f + (j + 1) * 9 + q * 9 + 5 by omega] at this
                  have v6 : wr.cell? ⟨b, f + (j + 1) * 9 + q * 9 + 6, none⟩ = some (.int .i64 y.pt) := by have := hcell ((j + 1 + q) * 9 + 6) _ (calVals_get hy 6 (by omega)); rwa [show f + ((j + 1 + q) * 9 + 6) = f + (j + 1) * 9 + q * 9 + 6 by omega] at this
                  have v7 : wr.cell? ⟨b, f + (j + 1) * 9 + q * 9 + 7, none⟩ = some (.int .i64 y.ak) := by have := hcell ((j + 1 + q) * 9 + 7) _ (calVals_get hy 7 (by omega)); rwa [show f + ((j + 1 + q) * 9 + 7) = f + (j + 1) * 9 + q * 9 + 7 by omega] at this
                  have v8 : wr.cell? ⟨b, f + (j + 1) * 9 + q * 9 + 8, none⟩ = some (.int .i64 y.av) := by have := hcell ((j + 1 + q) * 9 + 8) _ (calVals_get hy 8 (by omega)); rwa [show f + ((j + 1 + q) * 9 + 8) = f + (j + 1) * 9 + q * 9 + 8 by omega] at this
                  have c0 : wr.cell? ⟨wo.heap.size, 0, none⟩ = some (.int .i64 x.th) := hc3.cell rfl
                  have s0 : wr.cell? ⟨wo.heap.size + 1, 0, none⟩ = some (.int .i64 x.th) := hs3.cell rfl
                  have s1 : wr.cell? ⟨wo.heap.size + 1, 1, none⟩ = some (.bool true) := hs3.cell rfl
                  have s2 : wr.cell? ⟨wo.heap.size + 1, 2, none⟩ = some (.int .i64 x.fin) := hs3.cell rfl
                  have s3 : wr.cell? ⟨wo.heap.size + 1, 3, none⟩ = some (.int .i64 (-1)) := hs3.cell rfl
                  have s9 := hs3.frozen 3
                  have hbq : b < wr.heap.size := by omega
                  have HC3 := Lib.hid hc3
                  have HS3 := Lib.hid hs3
                  have HD3 : Hid ((calls.drop (j + 1 + q)) = y :: calls.drop (j + 1 + q + 1)) := drop_cons hy
                  clear hcell hy hc3 hs3
                  by_cases m1 : y.th = x.th
                  · have k1 : (y.th == x.th) = true := by simp [m1]
                    by_cases m2 : y.op = 123
                    · have k2 : (y.op == 123) = true := by simp [m2]
                      go_upto_region 19 with fail
                      have hs4 : Blk ((wr.setCell ⟨wo.heap.size + 1, 3, none⟩ (.int .i64 y.beg)).alloc (.cells #[.int .i64 x.th, .int .i64 123, .int .i64 y.arg, .int .i64 y.dat, .int .i64 y.beg, .int .i64 y.fin, .int .i64 y.pt, .int .i64 y.ak, .int .i64 y.av] 62)) (wo.heap.size + 1) 68 [.int .i64 x.th, .bool true, .int .i64 x.fin, .int .i64 y.beg] := (HS3.out.set_ 3 _).alloc _
                      have HBt : Hid (Below w1.heap.size w1 ((wr.setCell ⟨wo.heap.size + 1, 3, none⟩ (.int .i64 y.beg)).alloc (.cells #[.int .i64 x.th, .int .i64 123, .int .i64 y.arg, .int .i64 y.dat, .int .i64 y.beg, .int .i64 y.fin, .int .i64 y.pt, .int .i64 y.ak, .int .i64 y.av] 62))) := (hBt0.out.setCell (by dsimp only; omega) _).alloc (by simp; omega) _
                      have HOt : Hid (((wr.setCell ⟨wo.heap.size + 1, 3, none⟩ (.int .i64 y.beg)).alloc (.cells #[.int .i64 x.th, .int .i64 123, .int .i64 y.arg, .int .i64 y.dat, .int .i64 y.beg, .int .i64 y.fin, .int .i64 y.pt, .int .i64 y.ak, .int .i64 y.av] 62)).ownsRow w1.heap.size 68 4 (.slice A7 o.length k7) o.length (styVals o)) := (own_setf HOq.out (fun e => by have := (hO7.out.lt _ e.symm).2; dsimp only at this; omega) _).alloc _
                      have hzt : w1.heap.size ≤ ((wr.setCell ⟨wo.heap.size + 1, 3, none⟩ (.int .i64 y.beg)).alloc (.cells #[.int .i64 x.th, .int .i64 123, .int .i64 y.arg, .int .i64 y.dat, .int .i64 y.beg, .int .i64 y.fin, .int .i64 y.pt, .int .i64 y.ak, .int .i64 y.av] 62)).heap.size := by have := hBt0.out.size; simp; omega
                      generalize (wr.setCell ⟨wo.heap.size + 1, 3, none⟩ (.int .i64 y.beg)).alloc (.cells #[.int .i64 x.th, .int .i64 123, .int .i64 y.arg, .int .i64 y.dat, .int .i64 y.beg, .int .i64 y.fin, .int .i64 y.pt, .int .i64 y.ak, .int .i64 y.av] 62) = w5 at hs4 HBt HOt hzt ⊢
                      have e0' : w5.cell? ⟨wo.heap.size + 1, 0, none⟩ = some (.int .i64 x.th) := hs4.cell rfl
                      have e1' : w5.cell? ⟨wo.heap.size + 1, 1, none⟩ = some (.bool true) := hs4.cell rfl
                      have e2 : w5.cell? ⟨wo.heap.size + 1, 2, none⟩ = some (.int .i64 x.fin) := hs4.cell rfl
                      have e3 : w5.cell? ⟨wo.heap.size + 1, 3, none⟩ = some (.int .i64 y.beg) := hs4.cell rfl
                      have hst : stOf x (calls.drop (j + 1)) = ⟨x.th, true, x.fin, y.beg⟩ := by
                        rw [stOf, HSh.out, tilOf, hF.out, HD3.out, List.find?_cons_of_pos (by simp [Cal.leaves, HLv.out, m1, m2])]
                      have HST := Lib.hid hst
                      clear hst hs4 v0 v1 v2 v3 v4 v5 v6 v7 v8 c0 s0 s1 s2 s3 s9 m1 m2 k1 k2
                      go_wp2_with (at_builtin; go_must (refine wpList_app _ rfl _ _ 41 rfl w1.heap.size 68 i1 (.agg #[.int .i64 0, .bool false, .int .i64 0, .int .i64 0]) 4 32 Try.underlying41 hi1 hi1z hi1s hi1b rfl (by decide) (.slice A7 o.length k7) o.length (styVals o) rfl (HOt.out.alloc _) (w5.heap.size + 1) (some ⟨w5.heap.size, 0, none⟩) 1 1 (styL ⟨x.th, true, x.fin, y.beg⟩) rfl (((Blk.new w5 68 _).sl rfl).up (by simp)) (styL_one _) (o.length + 1) rfl _ rfl _ rfl (by simp only [maxLen]; omega) (by omega) (by rw [World.size_alloc]; omega) ?_; intro A9 k9 w9 hown9 hg9 hat9 hk9 hk9'))
                      go_roundg (go - 1)
                      case measure => omega
                      case rel =>
                        refine ⟨j + 1, A9, k9, o ++ [⟨x.th, true, x.fin, y.beg⟩], by omega, by go_num, by rw [List.length_append]; rfl, ?_, ?_, ?_⟩
                        · exact (HBt.out.alloc hzt _).grown hg9 (by rw [World.size_alloc]; omega) (fun r hr => (HOt.out.lt r hr).1)
                        · show World.ownsRow _ _ _ _ _ _ _
                          rw [← styVals_snoc, List.length_append]
                          exact hown9
                        · show _ = _
                          rw [← hD.out, HD2.out, stays0, HI.out, cond_true, List.append_assoc]
                          exact congrArg (o ++ ·) (congrArg (· :: _) HST.out.symm)
                    · have k2 : (y.op == 123) = false := by simp [m2]
                      go_wp2_with fail
                      go_roundg (gk - 1)
                      case measure => omega
                      case rel =>
                        refine ⟨q + 1, by omega, by go_num, hBq.out.alloc hzq _, ?_⟩
                        show _ = _
                        rw [hF.out, HD3.out, List.find?_cons_of_neg (by simp [Cal.leaves, HLv.out, m2])]
                        rfl
                  · have k1 : (y.th == x.th) = false := by simp [m1]
                    go_wp2_with fail
                    go_roundg (gk - 1)
                    case measure => omega
                    case rel =>
                      refine ⟨q + 1, by omega, by go_num, hBq.out.alloc hzq _, ?_⟩
                      show _ = _
                      rw [hF.out, HD3.out, List.find?_cons_of_neg (by simp [Cal.leaves, m1])]
                      rfl
                · obtain rfl : q = calls.length - (j + 1) := by omega
                  go_upto_region 19 with fail
                  have e0' : wr.cell? ⟨wo.heap.size + 1, 0, none⟩ = some (.int .i64 x.th) := hs3.cell rfl
                  have e1' : wr.cell? ⟨wo.heap.size + 1, 1, none⟩ = some (.bool true) := hs3.cell rfl
                  have e2 : wr.cell? ⟨wo.heap.size + 1, 2, none⟩ = some (.int .i64 x.fin) := hs3.cell rfl
                  have e3 : wr.cell? ⟨wo.heap.size + 1, 3, none⟩ = some (.int .i64 (-1)) := hs3.cell rfl
                  have hnil : calls.drop (j + 1 + (calls.length - (j + 1))) = [] := List.drop_of_length_le (by omega)
                  have hst : stOf x (calls.drop (j + 1)) = ⟨x.th, true, x.fin, -1⟩ := by
                    rw [stOf, HSh.out, tilOf, hF.out, hnil]
                    rfl
                  have HST := Lib.hid hst
                  have HBt := hBt0
                  have HOt := HOq
                  have hzt : w1.heap.size ≤ wr.heap.size := by omega
                  clear hst hnil hs3 hc3
                  go_wp2_with (at_builtin; go_must (refine wpList_app _ rfl _ _ 41 rfl w1.heap.size 68 i1 (.agg #[.int .i64 0, .bool false, .int .i64 0, .int .i64 0]) 4 32 Try.underlying41 hi1 hi1z hi1s hi1b rfl (by decide) (.slice A7 o.length k7) o.length (styVals o) rfl (HOt.out.alloc _) (wr.heap.size + 1) (some ⟨wr.heap.size, 0, none⟩) 1 1 (styL ⟨x.th, true, x.fin, -1⟩) rfl (((Blk.new wr 68 _).sl rfl).up (by simp)) (styL_one _) (o.length + 1) rfl _ rfl _ rfl (by simp only [maxLen]; omega) (by omega) (by rw [World.size_alloc]; omega) ?_; intro A9 k9 w9 hown9 hg9 hat9 hk9 hk9'))
                  go_roundg (go - 1)
                  case measure => omega
                  case rel =>
                    refine ⟨j + 1, A9, k9, o ++ [⟨x.th, true, x.fin, -1⟩], by omega, by go_num, by rw [List.length_append]; rfl, ?_, ?_, ?_⟩
                    · exact (HBt.out.alloc hzt _).grown hg9 (by rw [World.size_alloc]; omega) (fun r hr => (HOt.out.lt r hr).1)
                    · show World.ownsRow _ _ _ _ _ _ _
                      rw [← styVals_snoc, List.length_append]
                      exact hown9
                    · show _ = _
                      rw [← hD.out, HD2.out, stays0, HI.out, cond_true, List.append_assoc]
                      exact congrArg (o ++ ·) (congrArg (· :: _) HST.out.symm)
      · have g1 : (x.op != 120) = true := by simp; omega
        have g2 : (x.op != 122) = true := by simp; omega
        have HI : Hid (x.isStay = false) := by show _ = _; simp [Cal.isStay]; omega
        go_wp2_with fail
        go_roundg (gk - 1)
        case measure => omega
        case rel => exact ⟨j + 1, A7, k7, o, by omega, by go_num, rfl, hB.out.alloc hzr _, hO7.out.below ((Below.refl _ _).alloc (Nat.le_refl _) _), by show _ = _; rw [← hD.out, HD2.out, stays0, HI.out]; rfl⟩
    · obtain rfl : j = calls.length := by omega
      have hO9 : o = stays0 calls := by have := hD.out; rw [List.drop_length, stays0, List.append_nil] at this; exact this
      have hbw : Below w.heap.size w wr := HB1.out.trans (hB.out.mono (by omega))
      have hw1 : w.heap.size ≤ w1.heap.size := by omega
      have hcall := HO.out wr w1.heap.size A7 k7 (by have := hO7.out; rw [hO9] at this; exact this)
      rw [← hO9] at hcall
      have HC := Lib.hid hcall
      have HBw := Lib.hid hbw
      have HO9 := Lib.hid hO9
      have HZ := Lib.hid hO7.out
      clear hcall hbw hO9 hO7
      go_wp2_with fail
      refine HC.out.mono ?_
      rintro e w3 ⟨rfl, ho3, hg3⟩
      have HO3 := Lib.hid ho3
      have HG3 := Lib.hid hg3
      clear ho3 hg3
      go_wp2_with fail
      go_ret2
      refine ⟨A7, k7, by rw [← HO9.out]; rfl, by rw [← HO9.out]; exact own_low9 HO3.out hw1, ?_⟩
      have hsz := HG3.out.size
      exact HBw.out.grown HG3.out (Nat.le_trans hw1 hB.out.size) (fun r hr => Nat.le_trans hw1 (HZ.out.lt r hr).1)
end Go.Proofs.Ytjnmlgfkiebkgaa
