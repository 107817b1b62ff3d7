/-
  reclaimref24.Holds.
-/
import Derived.Test.YtjnmlgfkiebkgaaLho
import Derived.Test.YtjnmlgfkiebkgaaLsy
import Derived.Test.YtjnmlgfkiebkgaaLrw
import Derived.Deep.CutBlock
import Derived.BigQuiet
import Derived.WalkSmall
namespace Go.Proofs.Ytjnmlgfkiebkgaa
open Go.RowKit
set_option linter.unusedVariables false
set_option linter.unusedSimpArgs false

/-- the document's stays -/
def rstays (calls : List Cal) : List St := (stays0 calls).foldl (insL (fun z : St => z.fr)) []
theorem styVals_set4 {l : List St} {k : Nat} (h : k < l.length) (s : St) : ((((styVals l).set (k * 4) (.int .i64 s.th)).set (k * 4 + 1) (.bool s.sh)).set (k * 4 + 2) (.int .i64 s.fr)).set (k * 4 + 3) (.int .i64 s.til) = styVals (l.set k s) := by
  induction l generalizing k with
  | nil => simp at h
  | cons a l ih =>
    cases k with
    | zero => simp [styVals]
    | succ k =>
      have e : styVals (a :: l) = styL a ++ styVals l := rfl
      have e4 : (styL a).length = 4 := rfl
      rw [e, List.set_cons_succ, show styVals (a :: l.set k s) = styL a ++ styVals (l.set k s) from rfl, ← ih (by simpa using h)]
      rw [List.set_append_right _ _ (by omega), List.set_append_right _ _ (by omega), List.set_append_right _ _ (by omega), List.set_append_right _ _ (by omega), e4]
      rw [show (k + 1) * 4 - 4 = k * 4 by omega, show (k + 1) * 4 + 1 - 4 = k * 4 + 1 by omega, show (k + 1) * 4 + 2 - 4 = k * 4 + 2 by omega, show (k + 1) * 4 + 3 - 4 = k * 4 + 3 by omega]
section
variable {α : Type} (o : List α) (v s : α) (k : Nat) (h : k ≤ o.length)
include h
theorem shf_lt : k < (o.take k ++ v :: o.drop k).length := by rw [List.length_append, List.length_take, List.length_cons, List.length_drop]; omega
theorem shf_get : (o.take k ++ v :: o.drop k)[k]? = some v := by
  rw [List.getElem?_append_right (by rw [List.length_take]; omega), List.length_take, Nat.min_eq_left h, Nat.sub_self]
  rfl
theorem shf_set : (o.take k ++ v :: o.drop k).set k s = o.take k ++ s :: o.drop k := by
  rw [List.set_append_right _ _ (by rw [List.length_take]; omega), List.length_take, Nat.min_eq_left h, Nat.sub_self]
  rfl
end
theorem shf_prev {α : Type} (o : List α) (v : α) (k : Nat) (h : k < o.length) : (o.take (k + 1) ++ v :: o.drop (k + 1))[k]? = some o[k] := by
  rw [List.getElem?_append_left (by simp; omega), List.getElem?_take_of_lt (by omega), List.getElem?_eq_getElem h]
theorem shf_step {α : Type} (o : List α) (v : α) (k : Nat) (h : k < o.length) : (o.take (k + 1) ++ v :: o.drop (k + 1)).set (k + 1) o[k] = o.take k ++ o[k] :: o.drop k := by
  rw [shf_set o v o[k] (k + 1) (by omega), List.take_add_one, List.getElem?_eq_getElem h, List.append_assoc, List.drop_eq_getElem_cons h]
  rfl
def RStaysR (l : List St) (w : World) (e : Ending) (w' : World) : Prop :=
  ∃ A c, e = .returned (.slice A l.length c) ∧ w'.ownsRow w.heap.size 68 4 (.slice A l.length c) l.length (styVals l) ∧ Below w.heap.size w w'
set_option maxRecDepth 100000 in
set_option maxHeartbeats 4000000 in
theorem rstays_any (calls : List Cal) (Ac At As Aw : Option Addr) (kc nt kt ns ks nw kw : Nat) (w : World) (h : Sl w w.heap.size 9 Ac calls.length (calVals calls)) (hn : calls.length ≤ 1954687338211) :
    Calls Try.prog 21 #[.agg #[.slice Ac calls.length kc, .slice At nt kt, .slice As ns ks, .slice Aw nw kw]] w (RStaysR (rstays calls) w) := by
  obtain ⟨i1, hi1, hi1z, hi1s, hi1b⟩ := info_parts info_sty
  have HS := Lib.hid h
  clear h
  go_enter Try.func21, Try.ntmps21
  go_wp2_with fail
  have hb1 : Below w.heap.size w (w.alloc (.cells #[.slice Ac calls.length kc, .slice At nt kt, .slice As ns ks, .slice Aw nw kw] 39)) := (Below.refl _ _).alloc (Nat.le_refl _) _
  have hr1 : Blk (w.alloc (.cells #[.slice Ac calls.length kc, .slice At nt kt, .slice As ns ks, .slice Aw nw kw] 39)) w.heap.size 39 [.slice Ac calls.length kc, .slice At nt kt, .slice As ns ks, .slice Aw nw kw] := Blk.new _ _ _
  generalize w.alloc (.cells #[.slice Ac calls.length kc, .slice At nt kt, .slice As ns ks, .slice Aw nw kw] 39) = w1 at hb1 hr1 ⊢
  have hrl := hr1.lt
  have hz1 := hb1.size
  have HR1 := Lib.hid hr1
  have HB1 := Lib.hid hb1
  clear hb1 hr1
  go_loopg [3, 13] calls.length (fun gk s3 i wr => ∃ (j : Nat) (A3 : Option Addr) (k3 : Nat) (o : List St), j + gk = calls.length ∧ i = .int .i64 j ∧ s3 = .slice A3 o.length k3 ∧ Hid (Below w1.heap.size w1 wr) ∧ Hid (wr.ownsRow w1.heap.size 68 4 s3 o.length (styVals o)) ∧ Hid ((stays0 (calls.drop j)).foldl (insL (fun z : St => z.fr)) o = rstays calls) ∧ o.length ≤ j)
  case atStart => exact ⟨0, none, 0, [], by omega, rfl, rfl, Below.refl _ _, World.ownsRow_nil _ _ _ _, by show _ = _; rfl, Nat.zero_le _⟩
  case round =>
    obtain ⟨j, A3, k3, o, hj, rfl, rfl, hB, hO, hD, hol⟩ := hrel
    by_cases hlt : j < calls.length
    · obtain ⟨x, hx⟩ := at_lt hlt
      have e1 : (j : Int) < calls.length := by omega
      have e0 : (0 : Int) ≤ j := by omega
      have hs := (HS.out.below (HB1.out.trans (hB.out.mono (by omega)))).2 (by omega)
      obtain ⟨b, f, hA, hbl, hcell⟩ := hs
      have v0 : wr.cell? ⟨b, f + j * 9, none⟩ = some (.int .i64 x.th) := by have := hcell (j * 9 + 0) _ (calVals_get hx 0 (by omega)); simpa using this
      have v1 : wr.cell? ⟨b, f + j * 9 + 1, none⟩ = some (.int .i64 x.op) := by have := hcell (j * 9 + 1) _ (calVals_get hx 1 (by omega)); rw [← Nat.add_assoc] at this; exact this
      have v2 : wr.cell? ⟨b, f + j * 9 + 2, none⟩ = some (.int .i64 x.arg) := by have := hcell (j * 9 + 2) _ (calVals_get hx 2 (by omega)); rw [← Nat.add_assoc] at this; exact this
      have v3 : wr.cell? ⟨b, f + j * 9 + 3, none⟩ = some (.int .i64 x.dat) := by have := hcell (j * 9 + 3) _ (calVals_get hx 3 (by omega)); rw [← Nat.add_assoc] at this; exact this
      have v4 : wr.cell? ⟨b, f + j * 9 + 4, none⟩ = some (.int .i64 x.beg) := by have := hcell (j * 9 + 4) _ (calVals_get hx 4 (by omega)); rw [← Nat.add_assoc] at this; exact this
      have v5 : wr.cell? ⟨b, f + j * 9 + 5, none⟩ = some (.int .i64 x.fin) := by have := hcell (j * 9 + 5) _ (calVals_get hx 5 (by omega)); rw [← Nat.add_assoc] at this; exact this
      have v6 : wr.cell? ⟨b, f + j * 9 + 6, none⟩ = some (.int .i64 x.pt) := by have := hcell (j * 9 + 6) _ (calVals_get hx 6 (by omega)); rw [← Nat.add_assoc] at this; exact this
      have v7 : wr.cell? ⟨b, f + j * 9 + 7, none⟩ = some (.int .i64 x.ak) := by have := hcell (j * 9 + 7) _ (calVals_get hx 7 (by omega)); rw [← Nat.add_assoc] at this; exact this
      have v8 : wr.cell? ⟨b, f + j * 9 + 8, none⟩ = some (.int .i64 x.av) := by have := hcell (j * 9 + 8) _ (calVals_get hx 8 (by omega)); rw [← Nat.add_assoc] at this; exact this

      have hzr := hB.out.size
      have hD2 : calls.drop j = x :: calls.drop (j + 1) := drop_cons hx
      have HD2 := Lib.hid hD2
      subst hA
      have hbe : b < wr.heap.size := by omega
      clear hcell hx hD2
      by_cases c1 : x.op = 120 ∨ x.op = 122
      · by_cases c2 : x.fin = -1
        · have f1 : (x.fin == -1) = true := by simp [c2]
          have HI : Hid (x.isStay = false) := by show _ = _; simp [Cal.isStay, c2]
          rcases c1 with c1 | c1
          · have g1 : (x.op != 120) = false := by simp [c1]
            go_wp2_with fail
            go_roundg (gk - 1)
            case measure => omega
            case rel => exact ⟨j + 1, A3, k3, o, by omega, by go_num, rfl, hB.out.alloc hzr _, hO.out.below ((Below.refl _ _).alloc (Nat.le_refl _) _), by show _ = _; rw [← hD.out, HD2.out, stays0, HI.out]; rfl, by omega⟩
          · have g1 : (x.op != 120) = true := by simp [c1]
            have g2 : (x.op != 122) = false := by simp [c1]
            go_wp2_with fail
            go_roundg (gk - 1)
            case measure => omega
            case rel => exact ⟨j + 1, A3, k3, o, by omega, by go_num, rfl, hB.out.alloc hzr _, hO.out.below ((Below.refl _ _).alloc (Nat.le_refl _) _), by show _ = _; rw [← hD.out, HD2.out, stays0, HI.out]; rfl, by omega⟩
        · have f1 : (x.fin == -1) = false := by simp [c2]
          rcases c1 with c1 | c1
          · -- an acquire
            have HI : Hid (x.isStay = true) := by show _ = _; simp [Cal.isStay, c1, c2]
            have HLv : Hid (x.leave = 121) := by show _ = _; simp [Cal.leave, c1]
            have HSh : Hid ((x.op == 122) = false) := by show _ = _; simp [c1]
            have g1 : (x.op != 120) = false := by simp [c1]
            have g3 : (x.op == 122) = false := by simp [c1]
            go_upto_block 2 with fail
            have hc2 : Blk ((wr.alloc (.cells #[.int .i64 x.th, .int .i64 120, .int .i64 x.arg, .int .i64 x.dat, .int .i64 x.beg, .int .i64 x.fin, .int .i64 x.pt, .int .i64 x.ak, .int .i64 x.av] 62)).alloc (.cells #[.int .i64 x.th, .bool false, .int .i64 x.fin, .int .i64 (-1)] 68)) wr.heap.size 62 [.int .i64 x.th, .int .i64 120, .int .i64 x.arg, .int .i64 x.dat, .int .i64 x.beg, .int .i64 x.fin, .int .i64 x.pt, .int .i64 x.ak, .int .i64 x.av] := (Blk.new wr _ _).alloc _
            have hs2 : Blk ((wr.alloc (.cells #[.int .i64 x.th, .int .i64 120, .int .i64 x.arg, .int .i64 x.dat, .int .i64 x.beg, .int .i64 x.fin, .int .i64 x.pt, .int .i64 x.ak, .int .i64 x.av] 62)).alloc (.cells #[.int .i64 x.th, .bool false, .int .i64 x.fin, .int .i64 (-1)] 68)) (wr.heap.size + 1) 68 [.int .i64 x.th, .bool false, .int .i64 x.fin, .int .i64 (-1)] := new1_blk' _ _ _ _
            have hb2 : Below wr.heap.size wr ((wr.alloc (.cells #[.int .i64 x.th, .int .i64 120, .int .i64 x.arg, .int .i64 x.dat, .int .i64 x.beg, .int .i64 x.fin, .int .i64 x.pt, .int .i64 x.ak, .int .i64 x.av] 62)).alloc (.cells #[.int .i64 x.th, .bool false, .int .i64 x.fin, .int .i64 (-1)] 68)) := ((Below.refl _ _).alloc (Nat.le_refl _) _).alloc (by simp) _
            generalize ((wr.alloc (.cells #[.int .i64 x.th, .int .i64 120, .int .i64 x.arg, .int .i64 x.dat, .int .i64 x.beg, .int .i64 x.fin, .int .i64 x.pt, .int .i64 x.ak, .int .i64 x.av] 62)).alloc (.cells #[.int .i64 x.th, .bool false, .int .i64 x.fin, .int .i64 (-1)] 68)) = w2 at hc2 hs2 hb2 ⊢
            have hcl := hc2.lt
            have hsl := hs2.lt
            have HC2 := Lib.hid hc2
            have HS2 := Lib.hid hs2
            have HB2 : Hid (Below w1.heap.size w1 w2) := hB.out.trans (hb2.mono hzr)
            have HOw := Lib.hid (hO.out.below hb2)
            have hz2 := hb2.size
            clear v0 v1 v2 v3 v4 v5 v6 v7 v8 hc2 hs2 hb2
            go_cut [] from 41 to 68 (fun wc => Hid (Below w1.heap.size w1 wc) ∧ Hid (Blk wc (wr.heap.size + 1) 68 [.int .i64 x.th, .bool false, .int .i64 x.fin, .int .i64 (tilOf x (calls.drop (j + 1)))]) ∧ Hid (wc.ownsRow w1.heap.size 68 4 (.slice A3 o.length k3) o.length (styVals o)) ∧ wr.heap.size + 1 < wc.heap.size)
            case first =>
              go_wp2_with fail
              obtain ⟨wo, rfl⟩ : ∃ wo : World, wo = wr := ⟨_, rfl⟩
              obtain ⟨go, rfl⟩ : ∃ go : Nat, go = gk := ⟨_, rfl⟩
              go_loopg [7] (calls.length - (j + 1)) (fun g2 i wq => ∃ q : Nat, q + g2 = calls.length ∧ j + 1 ≤ q ∧ i = .int .i64 q ∧ Hid (Below w2.heap.size w2 wq) ∧ Hid ((calls.drop (j + 1)).find? x.leaves = (calls.drop q).find? x.leaves))
              case atStart => exact ⟨j + 1, by omega, Nat.le_refl _, by go_num, Below.refl _ _, rfl⟩
              case round =>
                obtain ⟨q, hq, hjq, rfl, hBq, hF⟩ := hrel
                have hzq := hBq.out.size
                have hc3 := HC2.out.below hBq.out hcl
                have hs3 := HS2.out.below hBq.out hsl
                have hBt0 : Hid (Below w1.heap.size w1 wr) := HB2.out.trans (hBq.out.mono (by omega))
                have HOq := Lib.hid (HOw.out.below hBq.out)
                have hr3 := HR1.out.below hBt0.out hrl
                have rr : wr.cell? ⟨w.heap.size, 0, none⟩ = some (.slice (some ⟨b, f, none⟩) calls.length kc) := hr3.cell rfl
                by_cases hltq : q < calls.length
                · obtain ⟨y, hy⟩ := at_lt hltq
                  have p1 : (q : Int) < calls.length := by omega
                  have p0 : (0 : Int) ≤ q := by omega
                  have hs := (HS.out.below (HB1.out.trans (hBt0.out.mono (by omega)))).2 (by omega)
                  obtain ⟨b', f', hA', hbl', hcell⟩ := hs
                  injection hA' with hA'
                  injection hA' with hA1 hA2
                  subst hA1 hA2
                  have u0 : wr.cell? ⟨b, f + q * 9, none⟩ = some (.int .i64 y.th) := by have := hcell (q * 9 + 0) _ (calVals_get hy 0 (by omega)); simpa using this
                  have u1 : wr.cell? ⟨b, f + q * 9 + 1, none⟩ = some (.int .i64 y.op) := by have := hcell (q * 9 + 1) _ (calVals_get hy 1 (by omega)); rw [← Nat.add_assoc] at this; exact this
                  have u2 : wr.cell? ⟨b, f + q * 9 + 2, none⟩ = some (.int .i64 y.arg) := by have := hcell (q * 9 + 2) _ (calVals_get hy 2 (by omega)); rw [← Nat.add_assoc] at this; exact this
                  have u3 : wr.cell? ⟨b, f + q * 9 + 3, none⟩ = some (.int .i64 y.dat) := by have := hcell (q * 9 + 3) _ (calVals_get hy 3 (by omega)); rw [← Nat.add_assoc] at this; exact this
                  have u4 : wr.cell? ⟨b, f + q * 9 + 4, none⟩ = some (.int .i64 y.beg) := by have := hcell (q * 9 + 4) _ (calVals_get hy 4 (by omega)); rw [← Nat.add_assoc] at this; exact this
                  have u5 : wr.cell? ⟨b, f + q * 9 + 5, none⟩ = some (.int .i64 y.fin) := by have := hcell (q * 9 + 5) _ (calVals_get hy 5 (by omega)); rw [← Nat.add_assoc] at this; exact this
                  have u6 : wr.cell? ⟨b, f + q * 9 + 6, none⟩ = some (.int .i64 y.pt) := by have := hcell (q * 9 + 6) _ (calVals_get hy 6 (by omega)); rw [← Nat.add_assoc] at this; exact this
                  have u7 : wr.cell? ⟨b, f + q * 9 + 7, none⟩ = some (.int .i64 y.ak) := by have := hcell (q * 9 + 7) _ (calVals_get hy 7 (by omega)); rw [← Nat.add_assoc] at this; exact this
                  have u8 : wr.cell? ⟨b, f + q * 9 + 8, none⟩ = some (.int .i64 y.av) := by have := hcell (q * 9 + 8) _ (calVals_get hy 8 (by omega)); rw [← Nat.add_assoc] at this; exact this

                  have c0 : wr.cell? ⟨wo.heap.size, 0, none⟩ = some (.int .i64 x.th) := hc3.cell rfl
                  have c1' : wr.cell? ⟨wo.heap.size, 1, none⟩ = some (.int .i64 120) := hc3.cell rfl
                  have s3 : wr.cell? ⟨wo.heap.size + 1, 3, none⟩ = some (.int .i64 (-1)) := hs3.cell rfl
                  have s9 := hs3.frozen 3
                  have hbq : b < wr.heap.size := by omega
                  have hcl3 := hc3.lt
                  have hsl3 := hs3.lt
                  have HS3 := Lib.hid hs3
                  have HD3 : Hid (calls.drop q = y :: calls.drop (q + 1)) := drop_cons hy
                  clear hcell hy hc3 hs3 hr3
                  by_cases m1 : y.th = x.th
                  · have k1 : (y.th == x.th) = true := by simp [m1]
                    by_cases m2 : y.op = 121
                    · have k2 : (y.op == 121) = true := by simp [m2]
                      have HTil : Hid (tilOf x (calls.drop (j + 1)) = y.beg) := by
                        show _ = _
                        rw [tilOf, hF.out, HD3.out, List.find?_cons_of_pos (by simp [Cal.leaves, HLv.out, m1, m2])]
                      go_wp2_with fail
                      go_meet
                      refine ⟨(hBt0.out.setCell (by dsimp only; omega) _).alloc (by simp; omega) _, ?_, (own_setf HOq.out (fun e => by have := (hO.out.lt _ e.symm).2; dsimp only at this; omega) _).alloc _, by simp; omega⟩
                      show Blk _ _ _ _
                      rw [HTil.out]
                      exact (HS3.out.set_ 3 _).alloc _
                    · have k2 : (y.op == 121) = false := by simp [m2]
                      go_wp2_with fail
                      go_roundg (gk - 1)
                      case measure => omega
                      case rel =>
                        refine ⟨q + 1, by omega, by omega, by go_num, hBq.out.alloc hzq _, ?_⟩
                        show _ = _
                        rw [hF.out, HD3.out, List.find?_cons_of_neg (by simp [Cal.leaves, HLv.out, m2])]
                  · have k1 : (y.th == x.th) = false := by simp [m1]
                    go_wp2_with fail
                    go_roundg (gk - 1)
                    case measure => omega
                    case rel =>
                      refine ⟨q + 1, by omega, by omega, by go_num, hBq.out.alloc hzq _, ?_⟩
                      show _ = _
                      rw [hF.out, HD3.out, List.find?_cons_of_neg (by simp [Cal.leaves, m1])]
                · obtain rfl : q = calls.length := by omega
                  have HTil : Hid (tilOf x (calls.drop (j + 1)) = -1) := by
                    show _ = _
                    rw [tilOf, hF.out, List.drop_length]
                    rfl
                  have HS3 := Lib.hid hs3
                  clear hs3 hc3 hr3
                  go_wp2_with fail
                  go_meet
                  refine ⟨hBt0.out, ?_, HOq.out, by omega⟩
                  show Blk _ _ _ _
                  rw [HTil.out]
                  exact HS3.out
            case rest =>
              obtain ⟨V, rfl⟩ : ∃ V : World, V = wc := ⟨_, rfl⟩
              obtain ⟨til, hti⟩ : ∃ til, til = tilOf x (calls.drop (j + 1)) := ⟨_, rfl⟩
              rw [← hti] at hcut
              obtain ⟨s, hs⟩ : ∃ s : St, s = ⟨x.th, false, x.fin, til⟩ := ⟨_, rfl⟩
              have HST : Hid (stOf x (calls.drop (j + 1)) = s) := by show _ = _; rw [stOf, HSh.out, ← hti, hs]
              obtain ⟨HBt, HSt, HOt, hzV⟩ := hcut
              have hst1 := HSt.out
              rw [show [Value.int .i64 x.th, .bool false, .int .i64 x.fin, .int .i64 til] = styL s from by rw [hs]] at hst1
              have HSt := Lib.hid hst1
              have e0 : V.cell? ⟨wr.heap.size + 1, 0, none⟩ = some (.int .i64 s.th) := hst1.cell rfl
              have e1' : V.cell? ⟨wr.heap.size + 1, 1, none⟩ = some (.bool s.sh) := hst1.cell rfl
              have e2 : V.cell? ⟨wr.heap.size + 1, 2, none⟩ = some (.int .i64 s.fr) := hst1.cell rfl
              have e3 : V.cell? ⟨wr.heap.size + 1, 3, none⟩ = some (.int .i64 s.til) := hst1.cell rfl
              clear hst1 hs hti HC2 HS2 HB2 HOw g1 g3
              have hzt := HBt.out.size
              have HNe : Hid (∀ r, (Value.slice A3 o.length k3).ownBlock = some r → w1.heap.size ≤ r ∧ r < wr.heap.size) := Lib.hid fun r hr => hO.out.lt r hr
              go_wp2_with (at_builtin; go_must (refine wpList_app _ rfl _ _ 41 rfl w1.heap.size 68 i1 (.agg #[.int .i64 0, .bool false, .int .i64 0, .int .i64 0]) 4 32 Try.underlying41 hi1 hi1z hi1s hi1b rfl (by decide) (.slice A3 o.length k3) o.length (styVals o) rfl (HOt.out.alloc _) (V.heap.size + 1) (some ⟨V.heap.size, 0, none⟩) 1 1 (styL s) rfl (((Blk.new V 68 _).sl rfl).up (by simp)) (styL_one _) (o.length + 1) rfl _ rfl _ rfl (by simp only [maxLen]; omega) (by omega) (by rw [World.size_alloc]; omega) ?_; intro A9 k9 w9 hown9 hg9 hat9 hk9 hk9'))
              obtain ⟨g9, rfl, hB9, hR9⟩ := Rw.of_own hown9 (by omega)
              have HB9 : Hid (Below w1.heap.size w1 w9) := (HBt.out.alloc hzt _).grown hg9 (by rw [World.size_alloc]; omega) (fun r hr => (HNe.out r hr).1)
              have HS9 : Hid (Blk w9 (wr.heap.size + 1) 68 (styL s)) := (HSt.out.alloc _).grown hg9 (fun e => by have := (HNe.out _ e.symm).2; omega)
              have hn9 : g9 ≠ wr.heap.size + 1 := fun e => by
                subst e
                rcases hat9 with h9 | h9
                · have := (HNe.out _ h9.symm).2; dsimp only at this; omega
                · injection h9 with h9; rw [World.size_alloc] at h9; dsimp only at h9; omega
              rw [styVals_snoc] at hR9
              have HR9 := Lib.hid hR9
              have hz9 := HB9.out.size
              have hl9 := HS9.out.lt
              clear hown9 hg9 hat9 hR9 HSt HBt HOt e0 e1' e2 e3 hzV HNe
              obtain ⟨gs, hgs⟩ : ∃ gs, gs = wr.heap.size + 1 := ⟨_, rfl⟩
              rw [← hgs] at HS9 hn9 hl9 ⊢
              clear hgs
              obtain ⟨wo, rfl⟩ : ∃ wo : World, wo = wr := ⟨_, rfl⟩
              obtain ⟨go, rfl⟩ : ∃ go : Nat, go = gk := ⟨_, rfl⟩
              go_loopg [9] o.length (fun g3 i wq => ∃ (v : St) (z : Int), g3 ≤ o.length ∧ i = .int .i64 z ∧ z = g3 ∧ Hid (Rw wq g9 68 4 (o.length + 1) k9 (styVals (o.take g3 ++ v :: o.drop g3))) ∧ Hid (dwn (fun z : St => z.fr) o s o.length = dwn (fun z : St => z.fr) o s g3) ∧ Hid (Below w1.heap.size w1 wq) ∧ Hid (Blk wq gs 68 (styL s)))
              case atStart => exact ⟨s, o.length, Nat.le_refl _, rfl, rfl, by show Rw _ _ _ _ _ _ _; rw [List.take_length, List.drop_length]; exact HR9.out, rfl, HB9.out, HS9.out⟩
              case round =>
                obtain ⟨v, z, hg3, rfl, hz0, HRq, HDw, HBq, HSq⟩ := hrel
                have hzq := HBq.out.size
                have hvk := shf_get o v gk hg3
                have HEnd2 : Hid (∀ W : World, Below w1.heap.size w1 W → Rw W g9 68 4 (o.length + 1) k9 (styVals (insL (fun z : St => z.fr) o s)) → ∃ (j' : Nat) (A3 : Option Addr) (k3 : Nat) (o' : List St), j' + (go - 1) = calls.length ∧ (Value.int .i64 ((j : Int) + 1)) = .int .i64 j' ∧ (Value.slice (some ⟨g9, 0, none⟩) (o.length + 1) k9) = .slice A3 o'.length k3 ∧ Hid (Below w1.heap.size w1 W) ∧ Hid (W.ownsRow w1.heap.size 68 4 (Value.slice (some ⟨g9, 0, none⟩) (o.length + 1) k9) o'.length (styVals o')) ∧ Hid ((stays0 (calls.drop j')).foldl (insL (fun z : St => z.fr)) o' = rstays calls) ∧ o'.length ≤ j') := Lib.hid (by
                  intro W HB8 HR8
                  refine ⟨j + 1, _, _, insL (fun z : St => z.fr) o s, by omega, by go_num, by rw [insL_len], HB8, ?_, ?_, by rw [insL_len]; omega⟩
                  · show World.ownsRow _ _ _ _ _ _ _
                    rw [insL_len]
                    exact HR8.own hB9
                  · show _ = _
                    rw [← hD.out, HD2.out, stays0, HI.out, cond_true, HST.out]
                    rfl)
                have s2 : wr.cell? ⟨gs, 2, none⟩ = some (.int .i64 s.fr) := HSq.out.cell rfl
                by_cases hk0 : gk = 0
                · subst hk0
                  obtain rfl : z = 0 := hz0
                  have HD0 : Hid (dwn (fun z : St => z.fr) o s o.length = 0) := by show _ = _; rw [HDw.out]; rfl
                  have d0 : decide ((0 : Int) < 0) = false := rfl
                  clear HDw
                  go_upto_region 15 with fail
                  go_quiet (fail)
                  obtain ⟨w8, hw8⟩ : ∃ w8 : World, w8 = wr.drewN nq := ⟨_, rfl⟩
                  have hB8 : Below w1.heap.size w1 (wr.drewN nq) := below_drewN HBq.out nq
                  have hR8 : Rw (wr.drewN nq) g9 68 4 (o.length + 1) k9 _ := HRq.out.below (below_drewN (Below.refl _ _) nq) HRq.out.lt
                  have hS8 : Blk (wr.drewN nq) gs 68 (styL s) := HSq.out.below (below_drewN (Below.refl _ _) nq) HSq.out.lt
                  rw [← hw8] at hB8 hR8 hS8 ⊢
                  clear hw8 s2 
                  have HB8 := Lib.hid hB8
                  have HR8 := Lib.hid hR8
                  have HS8 := Lib.hid hS8
                  have hz8 := hB8.size
                  have hl8 := hR8.lt
                  have hls := hS8.lt
                  have s0 : w8.cell? ⟨gs, 0, none⟩ = some (.int .i64 s.th) := hS8.cell rfl
                  have s1 : w8.cell? ⟨gs, 1, none⟩ = some (.bool s.sh) := hS8.cell rfl
                  have s2 : w8.cell? ⟨gs, 2, none⟩ = some (.int .i64 s.fr) := hS8.cell rfl
                  have s3 : w8.cell? ⟨gs, 3, none⟩ = some (.int .i64 s.til) := hS8.cell rfl
                  have t0 : w8.cell? ⟨g9, 0, none⟩ = some (.int .i64 v.th) := hR8.cell (styVals_get hvk 0 (by omega))
                  have f0 := hR8.frozen (0)
                  have t1 : w8.cell? ⟨g9, 1, none⟩ = some (.bool v.sh) := hR8.cell (styVals_get hvk 1 (by omega))
                  have f1 := hR8.frozen (1)
                  have t2 : w8.cell? ⟨g9, 2, none⟩ = some (.int .i64 v.fr) := hR8.cell (styVals_get hvk 2 (by omega))
                  have f2 := hR8.frozen (2)
                  have t3 : w8.cell? ⟨g9, 3, none⟩ = some (.int .i64 v.til) := hR8.cell (styVals_get hvk 3 (by omega))
                  have f3 := hR8.frozen (3)
                  clear hB8 hR8 hS8

                  go_wp2_with fail
                  go_roundg (go - 1)
                  case measure => omega
                  case rel =>
                    refine HEnd2.out _ ((((HB8.out.setCell hB9 _).setCell hB9 _).setCell hB9 _).setCell hB9 _) ?_
                    have h9 := (((HR8.out.set_ (0 * 4) (.int .i64 s.th)).set_ (0 * 4 + 1) (.bool s.sh)).set_ (0 * 4 + 2) (.int .i64 s.fr)).set_ (0 * 4 + 3) (.int .i64 s.til)
                    rw [styVals_set4 (shf_lt o v 0 hg3) s, shf_set o v s 0 hg3] at h9
                    rw [insL, HD0.out]
                    exact h9

                · obtain ⟨k, rfl⟩ : ∃ k, gk = k + 1 := ⟨gk - 1, by omega⟩
                  obtain rfl : z = (k : Int) + 1 := by omega
                  have hko : k < o.length := by omega
                  obtain ⟨p, hp⟩ : ∃ p, p = o[k] := ⟨_, rfl⟩
                  have hpk := shf_prev o v k hko
                  have hpb : o[k]! = p := by rw [getElem!_pos o k hko, hp]
                  rw [← hp] at hpk
                  have u2 : wr.cell? ⟨g9, k * 4 + 2, none⟩ = some (.int .i64 p.fr) := HRq.out.cell (styVals_get hpk 2 (by omega))
                  have HDk : Hid (dwn (fun z : St => z.fr) o s (k + 1) = bif decide (s.fr < p.fr) then dwn (fun z : St => z.fr) o s k else k + 1) := by show _ = _; rw [dwn, hpb]
                  have HPk := Lib.hid hpk
                  have HVk := Lib.hid hvk
                  have h8s := shf_step o v k hko
                  rw [← hp] at h8s
                  have H8s := Lib.hid h8s
                  clear hp hpb hpk hvk hk0 h8s hz0
                  have q4 : (k : Int) + 1 < (o.length : Int) + 1 := by omega
                  have q5 : (0 : Int) ≤ (k : Int) + 1 := by omega
                  have q6 : ((k : Int) + 1).toNat = k + 1 := by omega
                  have d0 : decide ((0 : Int) < (k : Int) + 1) = true := decide_eq_true (by omega)
                  have q0 : (0 : Int) < (k : Int) + 1 := by omega
                  have q1 : IntKind.i64.wrap (k : Int) = k := IntWalk.i64_in _ (by omega)
                  have q2 : (k : Int) < (o.length : Int) + 1 := by omega
                  have q3 : (0 : Int) ≤ k := by omega
                  by_cases hd : s.fr < p.fr
                  · have d1 : decide (s.fr < p.fr) = true := decide_eq_true hd
                    have HD1 := Lib.hid d1
                    go_upto_region 15 with fail
                    go_quiet (fail)
                    obtain ⟨w8, hw8⟩ : ∃ w8 : World, w8 = wr.drewN nq := ⟨_, rfl⟩
                    have hB8 : Below w1.heap.size w1 (wr.drewN nq) := below_drewN HBq.out nq
                    have hR8 : Rw (wr.drewN nq) g9 68 4 (o.length + 1) k9 _ := HRq.out.below (below_drewN (Below.refl _ _) nq) HRq.out.lt
                    have hS8 : Blk (wr.drewN nq) gs 68 (styL s) := HSq.out.below (below_drewN (Below.refl _ _) nq) HSq.out.lt
                    rw [← hw8] at hB8 hR8 hS8 ⊢
                    clear hw8 s2 u2
                    have HB8 := Lib.hid hB8
                    have HR8 := Lib.hid hR8
                    have HS8 := Lib.hid hS8
                    have hz8 := hB8.size
                    have hl8 := hR8.lt
                    have hls := hS8.lt
                    have s0 : w8.cell? ⟨gs, 0, none⟩ = some (.int .i64 s.th) := hS8.cell rfl
                    have s1 : w8.cell? ⟨gs, 1, none⟩ = some (.bool s.sh) := hS8.cell rfl
                    have s2 : w8.cell? ⟨gs, 2, none⟩ = some (.int .i64 s.fr) := hS8.cell rfl
                    have s3 : w8.cell? ⟨gs, 3, none⟩ = some (.int .i64 s.til) := hS8.cell rfl
                    have t0 : w8.cell? ⟨g9, (k + 1) * 4, none⟩ = some (.int .i64 v.th) := hR8.cell (styVals_get HVk.out 0 (by omega))
                    have f0 := hR8.frozen ((k + 1) * 4)
                    have t1 : w8.cell? ⟨g9, (k + 1) * 4 + 1, none⟩ = some (.bool v.sh) := hR8.cell (styVals_get HVk.out 1 (by omega))
                    have f1 := hR8.frozen ((k + 1) * 4 + 1)
                    have t2 : w8.cell? ⟨g9, (k + 1) * 4 + 2, none⟩ = some (.int .i64 v.fr) := hR8.cell (styVals_get HVk.out 2 (by omega))
                    have f2 := hR8.frozen ((k + 1) * 4 + 2)
                    have t3 : w8.cell? ⟨g9, (k + 1) * 4 + 3, none⟩ = some (.int .i64 v.til) := hR8.cell (styVals_get HVk.out 3 (by omega))
                    have f3 := hR8.frozen ((k + 1) * 4 + 3)
                    clear hB8 hR8 hS8

                    have u0 : w8.cell? ⟨g9, k * 4, none⟩ = some (.int .i64 p.th) := HR8.out.cell (styVals_get HPk.out 0 (by omega))
                    have u1 : w8.cell? ⟨g9, k * 4 + 1, none⟩ = some (.bool p.sh) := HR8.out.cell (styVals_get HPk.out 1 (by omega))
                    have u2 : w8.cell? ⟨g9, k * 4 + 2, none⟩ = some (.int .i64 p.fr) := HR8.out.cell (styVals_get HPk.out 2 (by omega))
                    have u3 : w8.cell? ⟨g9, k * 4 + 3, none⟩ = some (.int .i64 p.til) := HR8.out.cell (styVals_get HPk.out 3 (by omega))
                    go_wp2_with fail
                    go_roundg k
                    case measure => omega
                    case rel =>
                      refine ⟨p, k, by omega, by go_num, rfl, ?_, by show _ = _; rw [HDw.out, HDk.out, HD1.out]; rfl, (((HB8.out.setCell hB9 _).setCell hB9 _).setCell hB9 _).setCell hB9 _, (((HS8.out.far hn9.symm _).far hn9.symm _).far hn9.symm _).far hn9.symm _⟩
                      have h9 := (((HR8.out.set_ ((k + 1) * 4) (.int .i64 p.th)).set_ ((k + 1) * 4 + 1) (.bool p.sh)).set_ ((k + 1) * 4 + 2) (.int .i64 p.fr)).set_ ((k + 1) * 4 + 3) (.int .i64 p.til)
                      rwa [styVals_set4 (shf_lt o v (k + 1) hg3) p, H8s.out] at h9
                  · have d1 : decide (s.fr < p.fr) = false := decide_eq_false hd
                    have HD0 : Hid (dwn (fun z : St => z.fr) o s o.length = k + 1) := by show _ = _; rw [HDw.out, HDk.out, d1]; rfl
                    go_upto_region 15 with fail
                    go_quiet (fail)
                    obtain ⟨w8, hw8⟩ : ∃ w8 : World, w8 = wr.drewN nq := ⟨_, rfl⟩
                    have hB8 : Below w1.heap.size w1 (wr.drewN nq) := below_drewN HBq.out nq
                    have hR8 : Rw (wr.drewN nq) g9 68 4 (o.length + 1) k9 _ := HRq.out.below (below_drewN (Below.refl _ _) nq) HRq.out.lt
                    have hS8 : Blk (wr.drewN nq) gs 68 (styL s) := HSq.out.below (below_drewN (Below.refl _ _) nq) HSq.out.lt
                    rw [← hw8] at hB8 hR8 hS8 ⊢
                    clear hw8 s2 u2
                    have HB8 := Lib.hid hB8
                    have HR8 := Lib.hid hR8
                    have HS8 := Lib.hid hS8
                    have hz8 := hB8.size
                    have hl8 := hR8.lt
                    have hls := hS8.lt
                    have s0 : w8.cell? ⟨gs, 0, none⟩ = some (.int .i64 s.th) := hS8.cell rfl
                    have s1 : w8.cell? ⟨gs, 1, none⟩ = some (.bool s.sh) := hS8.cell rfl
                    have s2 : w8.cell? ⟨gs, 2, none⟩ = some (.int .i64 s.fr) := hS8.cell rfl
                    have s3 : w8.cell? ⟨gs, 3, none⟩ = some (.int .i64 s.til) := hS8.cell rfl
                    have t0 : w8.cell? ⟨g9, (k + 1) * 4, none⟩ = some (.int .i64 v.th) := hR8.cell (styVals_get HVk.out 0 (by omega))
                    have f0 := hR8.frozen ((k + 1) * 4)
                    have t1 : w8.cell? ⟨g9, (k + 1) * 4 + 1, none⟩ = some (.bool v.sh) := hR8.cell (styVals_get HVk.out 1 (by omega))
                    have f1 := hR8.frozen ((k + 1) * 4 + 1)
                    have t2 : w8.cell? ⟨g9, (k + 1) * 4 + 2, none⟩ = some (.int .i64 v.fr) := hR8.cell (styVals_get HVk.out 2 (by omega))
                    have f2 := hR8.frozen ((k + 1) * 4 + 2)
                    have t3 : w8.cell? ⟨g9, (k + 1) * 4 + 3, none⟩ = some (.int .i64 v.til) := hR8.cell (styVals_get HVk.out 3 (by omega))
                    have f3 := hR8.frozen ((k + 1) * 4 + 3)
                    clear hB8 hR8 hS8

                    go_wp2_with fail
                    go_roundg (go - 1)
                    case measure => omega
                    case rel =>
                      refine HEnd2.out _ ((((HB8.out.setCell hB9 _).setCell hB9 _).setCell hB9 _).setCell hB9 _) ?_
                      have h9 := (((HR8.out.set_ ((k + 1) * 4) (.int .i64 s.th)).set_ ((k + 1) * 4 + 1) (.bool s.sh)).set_ ((k + 1) * 4 + 2) (.int .i64 s.fr)).set_ ((k + 1) * 4 + 3) (.int .i64 s.til)
                      rw [styVals_set4 (shf_lt o v (k + 1) hg3) s, shf_set o v s (k + 1) hg3] at h9
                      rw [insL, HD0.out]
                      exact h9

          · -- a share
            have HI : Hid (x.isStay = true) := by show _ = _; simp [Cal.isStay, c1, c2]
            have HLv : Hid (x.leave = 123) := by show _ = _; simp [Cal.leave, c1]
            have HSh : Hid ((x.op == 122) = true) := by show _ = _; simp [c1]
            have g1 : (x.op != 120) = true := by simp [c1]
            have g2 : (x.op != 122) = false := by simp [c1]
            have g3 : (x.op == 122) = true := by simp [c1]
            go_upto_block 2 with fail
            have hc2 : Blk ((wr.alloc (.cells #[.int .i64 x.th, .int .i64 122, .int .i64 x.arg, .int .i64 x.dat, .int .i64 x.beg, .int .i64 x.fin, .int .i64 x.pt, .int .i64 x.ak, .int .i64 x.av] 62)).alloc (.cells #[.int .i64 x.th, .bool true, .int .i64 x.fin, .int .i64 (-1)] 68)) wr.heap.size 62 [.int .i64 x.th, .int .i64 122, .int .i64 x.arg, .int .i64 x.dat, .int .i64 x.beg, .int .i64 x.fin, .int .i64 x.pt, .int .i64 x.ak, .int .i64 x.av] := (Blk.new wr _ _).alloc _
            have hs2 : Blk ((wr.alloc (.cells #[.int .i64 x.th, .int .i64 122, .int .i64 x.arg, .int .i64 x.dat, .int .i64 x.beg, .int .i64 x.fin, .int .i64 x.pt, .int .i64 x.ak, .int .i64 x.av] 62)).alloc (.cells #[.int .i64 x.th, .bool true, .int .i64 x.fin, .int .i64 (-1)] 68)) (wr.heap.size + 1) 68 [.int .i64 x.th, .bool true, .int .i64 x.fin, .int .i64 (-1)] := new1_blk' _ _ _ _
            have hb2 : Below wr.heap.size wr ((wr.alloc (.cells #[.int .i64 x.th, .int .i64 122, .int .i64 x.arg, .int .i64 x.dat, .int .i64 x.beg, .int .i64 x.fin, .int .i64 x.pt, .int .i64 x.ak, .int .i64 x.av] 62)).alloc (.cells #[.int .i64 x.th, .bool true, .int .i64 x.fin, .int .i64 (-1)] 68)) := ((Below.refl _ _).alloc (Nat.le_refl _) _).alloc (by simp) _
            generalize ((wr.alloc (.cells #[.int .i64 x.th, .int .i64 122, .int .i64 x.arg, .int .i64 x.dat, .int .i64 x.beg, .int .i64 x.fin, .int .i64 x.pt, .int .i64 x.ak, .int .i64 x.av] 62)).alloc (.cells #[.int .i64 x.th, .bool true, .int .i64 x.fin, .int .i64 (-1)] 68)) = w2 at hc2 hs2 hb2 ⊢
            have hcl := hc2.lt
            have hsl := hs2.lt
            have HC2 := Lib.hid hc2
            have HS2 := Lib.hid hs2
            have HB2 : Hid (Below w1.heap.size w1 w2) := hB.out.trans (hb2.mono hzr)
            have HOw := Lib.hid (hO.out.below hb2)
            have hz2 := hb2.size
            clear v0 v1 v2 v3 v4 v5 v6 v7 v8 hc2 hs2 hb2
            go_cut [] from 41 to 68 (fun wc => Hid (Below w1.heap.size w1 wc) ∧ Hid (Blk wc (wr.heap.size + 1) 68 [.int .i64 x.th, .bool true, .int .i64 x.fin, .int .i64 (tilOf x (calls.drop (j + 1)))]) ∧ Hid (wc.ownsRow w1.heap.size 68 4 (.slice A3 o.length k3) o.length (styVals o)) ∧ wr.heap.size + 1 < wc.heap.size)
            case first =>
              go_wp2_with fail
              obtain ⟨wo, rfl⟩ : ∃ wo : World, wo = wr := ⟨_, rfl⟩
              obtain ⟨go, rfl⟩ : ∃ go : Nat, go = gk := ⟨_, rfl⟩
              go_loopg [7] (calls.length - (j + 1)) (fun g2 i wq => ∃ q : Nat, q + g2 = calls.length ∧ j + 1 ≤ q ∧ i = .int .i64 q ∧ Hid (Below w2.heap.size w2 wq) ∧ Hid ((calls.drop (j + 1)).find? x.leaves = (calls.drop q).find? x.leaves))
              case atStart => exact ⟨j + 1, by omega, Nat.le_refl _, by go_num, Below.refl _ _, rfl⟩
              case round =>
                obtain ⟨q, hq, hjq, rfl, hBq, hF⟩ := hrel
                have hzq := hBq.out.size
                have hc3 := HC2.out.below hBq.out hcl
                have hs3 := HS2.out.below hBq.out hsl
                have hBt0 : Hid (Below w1.heap.size w1 wr) := HB2.out.trans (hBq.out.mono (by omega))
                have HOq := Lib.hid (HOw.out.below hBq.out)
                have hr3 := HR1.out.below hBt0.out hrl
                have rr : wr.cell? ⟨w.heap.size, 0, none⟩ = some (.slice (some ⟨b, f, none⟩) calls.length kc) := hr3.cell rfl
                by_cases hltq : q < calls.length
                · obtain ⟨y, hy⟩ := at_lt hltq
                  have p1 : (q : Int) < calls.length := by omega
                  have p0 : (0 : Int) ≤ q := by omega
                  have hs := (HS.out.below (HB1.out.trans (hBt0.out.mono (by omega)))).2 (by omega)
                  obtain ⟨b', f', hA', hbl', hcell⟩ := hs
                  injection hA' with hA'
                  injection hA' with hA1 hA2
                  subst hA1 hA2
                  have u0 : wr.cell? ⟨b, f + q * 9, none⟩ = some (.int .i64 y.th) := by have := hcell (q * 9 + 0) _ (calVals_get hy 0 (by omega)); simpa using this
                  have u1 : wr.cell? ⟨b, f + q * 9 + 1, none⟩ = some (.int .i64 y.op) := by have := hcell (q * 9 + 1) _ (calVals_get hy 1 (by omega)); rw [← Nat.add_assoc] at this; exact this
                  have u2 : wr.cell? ⟨b, f + q * 9 + 2, none⟩ = some (.int .i64 y.arg) := by have := hcell (q * 9 + 2) _ (calVals_get hy 2 (by omega)); rw [← Nat.add_assoc] at this; exact this
                  have u3 : wr.cell? ⟨b, f + q * 9 + 3, none⟩ = some (.int .i64 y.dat) := by have := hcell (q * 9 + 3) _ (calVals_get hy 3 (by omega)); rw [← Nat.add_assoc] at this; exact this
                  have u4 : wr.cell? ⟨b, f + q * 9 + 4, none⟩ = some (.int .i64 y.beg) := by have := hcell (q * 9 + 4) _ (calVals_get hy 4 (by omega)); rw [← Nat.add_assoc] at this; exact this
                  have u5 : wr.cell? ⟨b, f + q * 9 + 5, none⟩ = some (.int .i64 y.fin) := by have := hcell (q * 9 + 5) _ (calVals_get hy 5 (by omega)); rw [← Nat.add_assoc] at this; exact this
                  have u6 : wr.cell? ⟨b, f + q * 9 + 6, none⟩ = some (.int .i64 y.pt) := by have := hcell (q * 9 + 6) _ (calVals_get hy 6 (by omega)); rw [← Nat.add_assoc] at this; exact this
                  have u7 : wr.cell? ⟨b, f + q * 9 + 7, none⟩ = some (.int .i64 y.ak) := by have := hcell (q * 9 + 7) _ (calVals_get hy 7 (by omega)); rw [← Nat.add_assoc] at this; exact this
                  have u8 : wr.cell? ⟨b, f + q * 9 + 8, none⟩ = some (.int .i64 y.av) := by have := hcell (q * 9 + 8) _ (calVals_get hy 8 (by omega)); rw [← Nat.add_assoc] at this; exact this

                  have c0 : wr.cell? ⟨wo.heap.size, 0, none⟩ = some (.int .i64 x.th) := hc3.cell rfl
                  have c1' : wr.cell? ⟨wo.heap.size, 1, none⟩ = some (.int .i64 122) := hc3.cell rfl
                  have s3 : wr.cell? ⟨wo.heap.size + 1, 3, none⟩ = some (.int .i64 (-1)) := hs3.cell rfl
                  have s9 := hs3.frozen 3
                  have hbq : b < wr.heap.size := by omega
                  have hcl3 := hc3.lt
                  have hsl3 := hs3.lt
                  have HS3 := Lib.hid hs3
                  have HD3 : Hid (calls.drop q = y :: calls.drop (q + 1)) := drop_cons hy
                  clear hcell hy hc3 hs3 hr3
                  by_cases m1 : y.th = x.th
                  · have k1 : (y.th == x.th) = true := by simp [m1]
                    by_cases m2 : y.op = 123
                    · have k2 : (y.op == 123) = true := by simp [m2]
                      have HTil : Hid (tilOf x (calls.drop (j + 1)) = y.beg) := by
                        show _ = _
                        rw [tilOf, hF.out, HD3.out, List.find?_cons_of_pos (by simp [Cal.leaves, HLv.out, m1, m2])]
                      go_wp2_with fail
                      go_meet
                      refine ⟨(hBt0.out.setCell (by dsimp only; omega) _).alloc (by simp; omega) _, ?_, (own_setf HOq.out (fun e => by have := (hO.out.lt _ e.symm).2; dsimp only at this; omega) _).alloc _, by simp; omega⟩
                      show Blk _ _ _ _
                      rw [HTil.out]
                      exact (HS3.out.set_ 3 _).alloc _
                    · have k2 : (y.op == 123) = false := by simp [m2]
                      go_wp2_with fail
                      go_roundg (gk - 1)
                      case measure => omega
                      case rel =>
                        refine ⟨q + 1, by omega, by omega, by go_num, hBq.out.alloc hzq _, ?_⟩
                        show _ = _
                        rw [hF.out, HD3.out, List.find?_cons_of_neg (by simp [Cal.leaves, HLv.out, m2])]
                  · have k1 : (y.th == x.th) = false := by simp [m1]
                    go_wp2_with fail
                    go_roundg (gk - 1)
                    case measure => omega
                    case rel =>
                      refine ⟨q + 1, by omega, by omega, by go_num, hBq.out.alloc hzq _, ?_⟩
                      show _ = _
                      rw [hF.out, HD3.out, List.find?_cons_of_neg (by simp [Cal.leaves, m1])]
                · obtain rfl : q = calls.length := by omega
                  have HTil : Hid (tilOf x (calls.drop (j + 1)) = -1) := by
                    show _ = _
                    rw [tilOf, hF.out, List.drop_length]
                    rfl
                  have HS3 := Lib.hid hs3
                  clear hs3 hc3 hr3
                  go_wp2_with fail
                  go_meet
                  refine ⟨hBt0.out, ?_, HOq.out, by omega⟩
                  show Blk _ _ _ _
                  rw [HTil.out]
                  exact HS3.out
            case rest =>
              obtain ⟨V, rfl⟩ : ∃ V : World, V = wc := ⟨_, rfl⟩
              obtain ⟨til, hti⟩ : ∃ til, til = tilOf x (calls.drop (j + 1)) := ⟨_, rfl⟩
              rw [← hti] at hcut
              obtain ⟨s, hs⟩ : ∃ s : St, s = ⟨x.th, true, x.fin, til⟩ := ⟨_, rfl⟩
              have HST : Hid (stOf x (calls.drop (j + 1)) = s) := by show _ = _; rw [stOf, HSh.out, ← hti, hs]
              obtain ⟨HBt, HSt, HOt, hzV⟩ := hcut
              have hst1 := HSt.out
              rw [show [Value.int .i64 x.th, .bool true, .int .i64 x.fin, .int .i64 til] = styL s from by rw [hs]] at hst1
              have HSt := Lib.hid hst1
              have e0 : V.cell? ⟨wr.heap.size + 1, 0, none⟩ = some (.int .i64 s.th) := hst1.cell rfl
              have e1' : V.cell? ⟨wr.heap.size + 1, 1, none⟩ = some (.bool s.sh) := hst1.cell rfl
              have e2 : V.cell? ⟨wr.heap.size + 1, 2, none⟩ = some (.int .i64 s.fr) := hst1.cell rfl
              have e3 : V.cell? ⟨wr.heap.size + 1, 3, none⟩ = some (.int .i64 s.til) := hst1.cell rfl
              clear hst1 hs hti HC2 HS2 HB2 HOw g1 g3
              have hzt := HBt.out.size
              have HNe : Hid (∀ r, (Value.slice A3 o.length k3).ownBlock = some r → w1.heap.size ≤ r ∧ r < wr.heap.size) := Lib.hid fun r hr => hO.out.lt r hr
              go_wp2_with (at_builtin; go_must (refine wpList_app _ rfl _ _ 41 rfl w1.heap.size 68 i1 (.agg #[.int .i64 0, .bool false, .int .i64 0, .int .i64 0]) 4 32 Try.underlying41 hi1 hi1z hi1s hi1b rfl (by decide) (.slice A3 o.length k3) o.length (styVals o) rfl (HOt.out.alloc _) (V.heap.size + 1) (some ⟨V.heap.size, 0, none⟩) 1 1 (styL s) rfl (((Blk.new V 68 _).sl rfl).up (by simp)) (styL_one _) (o.length + 1) rfl _ rfl _ rfl (by simp only [maxLen]; omega) (by omega) (by rw [World.size_alloc]; omega) ?_; intro A9 k9 w9 hown9 hg9 hat9 hk9 hk9'))
              obtain ⟨g9, rfl, hB9, hR9⟩ := Rw.of_own hown9 (by omega)
              have HB9 : Hid (Below w1.heap.size w1 w9) := (HBt.out.alloc hzt _).grown hg9 (by rw [World.size_alloc]; omega) (fun r hr => (HNe.out r hr).1)
              have HS9 : Hid (Blk w9 (wr.heap.size + 1) 68 (styL s)) := (HSt.out.alloc _).grown hg9 (fun e => by have := (HNe.out _ e.symm).2; omega)
              have hn9 : g9 ≠ wr.heap.size + 1 := fun e => by
                subst e
                rcases hat9 with h9 | h9
                · have := (HNe.out _ h9.symm).2; dsimp only at this; omega
                · injection h9 with h9; rw [World.size_alloc] at h9; dsimp only at h9; omega
              rw [styVals_snoc] at hR9
              have HR9 := Lib.hid hR9
              have hz9 := HB9.out.size
              have hl9 := HS9.out.lt
              clear hown9 hg9 hat9 hR9 HSt HBt HOt e0 e1' e2 e3 hzV HNe
              obtain ⟨gs, hgs⟩ : ∃ gs, gs = wr.heap.size + 1 := ⟨_, rfl⟩
              rw [← hgs] at HS9 hn9 hl9 ⊢
              clear hgs
              obtain ⟨wo, rfl⟩ : ∃ wo : World, wo = wr := ⟨_, rfl⟩
              obtain ⟨go, rfl⟩ : ∃ go : Nat, go = gk := ⟨_, rfl⟩
              go_loopg [9] o.length (fun g3 i wq => ∃ (v : St) (z : Int), g3 ≤ o.length ∧ i = .int .i64 z ∧ z = g3 ∧ Hid (Rw wq g9 68 4 (o.length + 1) k9 (styVals (o.take g3 ++ v :: o.drop g3))) ∧ Hid (dwn (fun z : St => z.fr) o s o.length = dwn (fun z : St => z.fr) o s g3) ∧ Hid (Below w1.heap.size w1 wq) ∧ Hid (Blk wq gs 68 (styL s)))
              case atStart => exact ⟨s, o.length, Nat.le_refl _, rfl, rfl, by show Rw _ _ _ _ _ _ _; rw [List.take_length, List.drop_length]; exact HR9.out, rfl, HB9.out, HS9.out⟩
              case round =>
                obtain ⟨v, z, hg3, rfl, hz0, HRq, HDw, HBq, HSq⟩ := hrel
                have hzq := HBq.out.size
                have hvk := shf_get o v gk hg3
                have HEnd2 : Hid (∀ W : World, Below w1.heap.size w1 W → Rw W g9 68 4 (o.length + 1) k9 (styVals (insL (fun z : St => z.fr) o s)) → ∃ (j' : Nat) (A3 : Option Addr) (k3 : Nat) (o' : List St), j' + (go - 1) = calls.length ∧ (Value.int .i64 ((j : Int) + 1)) = .int .i64 j' ∧ (Value.slice (some ⟨g9, 0, none⟩) (o.length + 1) k9) = .slice A3 o'.length k3 ∧ Hid (Below w1.heap.size w1 W) ∧ Hid (W.ownsRow w1.heap.size 68 4 (Value.slice (some ⟨g9, 0, none⟩) (o.length + 1) k9) o'.length (styVals o')) ∧ Hid ((stays0 (calls.drop j')).foldl (insL (fun z : St => z.fr)) o' = rstays calls) ∧ o'.length ≤ j') := Lib.hid (by
                  intro W HB8 HR8
                  refine ⟨j + 1, _, _, insL (fun z : St => z.fr) o s, by omega, by go_num, by rw [insL_len], HB8, ?_, ?_, by rw [insL_len]; omega⟩
                  · show World.ownsRow _ _ _ _ _ _ _
                    rw [insL_len]
                    exact HR8.own hB9
                  · show _ = _
                    rw [← hD.out, HD2.out, stays0, HI.out, cond_true, HST.out]
                    rfl)
                have s2 : wr.cell? ⟨gs, 2, none⟩ = some (.int .i64 s.fr) := HSq.out.cell rfl
                by_cases hk0 : gk = 0
                · subst hk0
                  obtain rfl : z = 0 := hz0
                  have HD0 : Hid (dwn (fun z : St => z.fr) o s o.length = 0) := by show _ = _; rw [HDw.out]; rfl
                  have d0 : decide ((0 : Int) < 0) = false := rfl
                  clear HDw
                  go_upto_region 15 with fail
                  go_quiet (fail)
                  obtain ⟨w8, hw8⟩ : ∃ w8 : World, w8 = wr.drewN nq := ⟨_, rfl⟩
                  have hB8 : Below w1.heap.size w1 (wr.drewN nq) := below_drewN HBq.out nq
                  have hR8 : Rw (wr.drewN nq) g9 68 4 (o.length + 1) k9 _ := HRq.out.below (below_drewN (Below.refl _ _) nq) HRq.out.lt
                  have hS8 : Blk (wr.drewN nq) gs 68 (styL s) := HSq.out.below (below_drewN (Below.refl _ _) nq) HSq.out.lt
                  rw [← hw8] at hB8 hR8 hS8 ⊢
                  clear hw8 s2 
                  have HB8 := Lib.hid hB8
                  have HR8 := Lib.hid hR8
                  have HS8 := Lib.hid hS8
                  have hz8 := hB8.size
                  have hl8 := hR8.lt
                  have hls := hS8.lt
                  have s0 : w8.cell? ⟨gs, 0, none⟩ = some (.int .i64 s.th) := hS8.cell rfl
                  have s1 : w8.cell? ⟨gs, 1, none⟩ = some (.bool s.sh) := hS8.cell rfl
                  have s2 : w8.cell? ⟨gs, 2, none⟩ = some (.int .i64 s.fr) := hS8.cell rfl
                  have s3 : w8.cell? ⟨gs, 3, none⟩ = some (.int .i64 s.til) := hS8.cell rfl
                  have t0 : w8.cell? ⟨g9, 0, none⟩ = some (.int .i64 v.th) := hR8.cell (styVals_get hvk 0 (by omega))
                  have f0 := hR8.frozen (0)
                  have t1 : w8.cell? ⟨g9, 1, none⟩ = some (.bool v.sh) := hR8.cell (styVals_get hvk 1 (by omega))
                  have f1 := hR8.frozen (1)
                  have t2 : w8.cell? ⟨g9, 2, none⟩ = some (.int .i64 v.fr) := hR8.cell (styVals_get hvk 2 (by omega))
                  have f2 := hR8.frozen (2)
                  have t3 : w8.cell? ⟨g9, 3, none⟩ = some (.int .i64 v.til) := hR8.cell (styVals_get hvk 3 (by omega))
                  have f3 := hR8.frozen (3)
                  clear hB8 hR8 hS8

                  go_wp2_with fail
                  go_roundg (go - 1)
                  case measure => omega
                  case rel =>
                    refine HEnd2.out _ ((((HB8.out.setCell hB9 _).setCell hB9 _).setCell hB9 _).setCell hB9 _) ?_
                    have h9 := (((HR8.out.set_ (0 * 4) (.int .i64 s.th)).set_ (0 * 4 + 1) (.bool s.sh)).set_ (0 * 4 + 2) (.int .i64 s.fr)).set_ (0 * 4 + 3) (.int .i64 s.til)
                    rw [styVals_set4 (shf_lt o v 0 hg3) s, shf_set o v s 0 hg3] at h9
                    rw [insL, HD0.out]
                    exact h9

                · obtain ⟨k, rfl⟩ : ∃ k, gk = k + 1 := ⟨gk - 1, by omega⟩
                  obtain rfl : z = (k : Int) + 1 := by omega
                  have hko : k < o.length := by omega
                  obtain ⟨p, hp⟩ : ∃ p, p = o[k] := ⟨_, rfl⟩
                  have hpk := shf_prev o v k hko
                  have hpb : o[k]! = p := by rw [getElem!_pos o k hko, hp]
                  rw [← hp] at hpk
                  have u2 : wr.cell? ⟨g9, k * 4 + 2, none⟩ = some (.int .i64 p.fr) := HRq.out.cell (styVals_get hpk 2 (by omega))
                  have HDk : Hid (dwn (fun z : St => z.fr) o s (k + 1) = bif decide (s.fr < p.fr) then dwn (fun z : St => z.fr) o s k else k + 1) := by show _ = _; rw [dwn, hpb]
                  have HPk := Lib.hid hpk
                  have HVk := Lib.hid hvk
                  have h8s := shf_step o v k hko
                  rw [← hp] at h8s
                  have H8s := Lib.hid h8s
                  clear hp hpb hpk hvk hk0 h8s hz0
                  have q4 : (k : Int) + 1 < (o.length : Int) + 1 := by omega
                  have q5 : (0 : Int) ≤ (k : Int) + 1 := by omega
                  have q6 : ((k : Int) + 1).toNat = k + 1 := by omega
                  have d0 : decide ((0 : Int) < (k : Int) + 1) = true := decide_eq_true (by omega)
                  have q0 : (0 : Int) < (k : Int) + 1 := by omega
                  have q1 : IntKind.i64.wrap (k : Int) = k := IntWalk.i64_in _ (by omega)
                  have q2 : (k : Int) < (o.length : Int) + 1 := by omega
                  have q3 : (0 : Int) ≤ k := by omega
                  by_cases hd : s.fr < p.fr
                  · have d1 : decide (s.fr < p.fr) = true := decide_eq_true hd
                    have HD1 := Lib.hid d1
                    go_upto_region 15 with fail
                    go_quiet (fail)
                    obtain ⟨w8, hw8⟩ : ∃ w8 : World, w8 = wr.drewN nq := ⟨_, rfl⟩
                    have hB8 : Below w1.heap.size w1 (wr.drewN nq) := below_drewN HBq.out nq
                    have hR8 : Rw (wr.drewN nq) g9 68 4 (o.length + 1) k9 _ := HRq.out.below (below_drewN (Below.refl _ _) nq) HRq.out.lt
                    have hS8 : Blk (wr.drewN nq) gs 68 (styL s) := HSq.out.below (below_drewN (Below.refl _ _) nq) HSq.out.lt
                    rw [← hw8] at hB8 hR8 hS8 ⊢
                    clear hw8 s2 u2
                    have HB8 := Lib.hid hB8
                    have HR8 := Lib.hid hR8
                    have HS8 := Lib.hid hS8
                    have hz8 := hB8.size
                    have hl8 := hR8.lt
                    have hls := hS8.lt
                    have s0 : w8.cell? ⟨gs, 0, none⟩ = some (.int .i64 s.th) := hS8.cell rfl
                    have s1 : w8.cell? ⟨gs, 1, none⟩ = some (.bool s.sh) := hS8.cell rfl
                    have s2 : w8.cell? ⟨gs, 2, none⟩ = some (.int .i64 s.fr) := hS8.cell rfl
                    have s3 : w8.cell? ⟨gs, 3, none⟩ = some (.int .i64 s.til) := hS8.cell rfl
                    have t0 : w8.cell? ⟨g9, (k + 1) * 4, none⟩ = some (.int .i64 v.th) := hR8.cell (styVals_get HVk.out 0 (by omega))
                    have f0 := hR8.frozen ((k + 1) * 4)
                    have t1 : w8.cell? ⟨g9, (k + 1) * 4 + 1, none⟩ = some (.bool v.sh) := hR8.cell (styVals_get HVk.out 1 (by omega))
                    have f1 := hR8.frozen ((k + 1) * 4 + 1)
                    have t2 : w8.cell? ⟨g9, (k + 1) * 4 + 2, none⟩ = some (.int .i64 v.fr) := hR8.cell (styVals_get HVk.out 2 (by omega))
                    have f2 := hR8.frozen ((k + 1) * 4 + 2)
                    have t3 : w8.cell? ⟨g9, (k + 1) * 4 + 3, none⟩ = some (.int .i64 v.til) := hR8.cell (styVals_get HVk.out 3 (by omega))
                    have f3 := hR8.frozen ((k + 1) * 4 + 3)
                    clear hB8 hR8 hS8

                    have u0 : w8.cell? ⟨g9, k * 4, none⟩ = some (.int .i64 p.th) := HR8.out.cell (styVals_get HPk.out 0 (by omega))
                    have u1 : w8.cell? ⟨g9, k * 4 + 1, none⟩ = some (.bool p.sh) := HR8.out.cell (styVals_get HPk.out 1 (by omega))
                    have u2 : w8.cell? ⟨g9, k * 4 + 2, none⟩ = some (.int .i64 p.fr) := HR8.out.cell (styVals_get HPk.out 2 (by omega))
                    have u3 : w8.cell? ⟨g9, k * 4 + 3, none⟩ = some (.int .i64 p.til) := HR8.out.cell (styVals_get HPk.out 3 (by omega))
                    go_wp2_with fail
                    go_roundg k
                    case measure => omega
                    case rel =>
                      refine ⟨p, k, by omega, by go_num, rfl, ?_, by show _ = _; rw [HDw.out, HDk.out, HD1.out]; rfl, (((HB8.out.setCell hB9 _).setCell hB9 _).setCell hB9 _).setCell hB9 _, (((HS8.out.far hn9.symm _).far hn9.symm _).far hn9.symm _).far hn9.symm _⟩
                      have h9 := (((HR8.out.set_ ((k + 1) * 4) (.int .i64 p.th)).set_ ((k + 1) * 4 + 1) (.bool p.sh)).set_ ((k + 1) * 4 + 2) (.int .i64 p.fr)).set_ ((k + 1) * 4 + 3) (.int .i64 p.til)
                      rwa [styVals_set4 (shf_lt o v (k + 1) hg3) p, H8s.out] at h9
                  · have d1 : decide (s.fr < p.fr) = false := decide_eq_false hd
                    have HD0 : Hid (dwn (fun z : St => z.fr) o s o.length = k + 1) := by show _ = _; rw [HDw.out, HDk.out, d1]; rfl
                    go_upto_region 15 with fail
                    go_quiet (fail)
                    obtain ⟨w8, hw8⟩ : ∃ w8 : World, w8 = wr.drewN nq := ⟨_, rfl⟩
                    have hB8 : Below w1.heap.size w1 (wr.drewN nq) := below_drewN HBq.out nq
                    have hR8 : Rw (wr.drewN nq) g9 68 4 (o.length + 1) k9 _ := HRq.out.below (below_drewN (Below.refl _ _) nq) HRq.out.lt
                    have hS8 : Blk (wr.drewN nq) gs 68 (styL s) := HSq.out.below (below_drewN (Below.refl _ _) nq) HSq.out.lt
                    rw [← hw8] at hB8 hR8 hS8 ⊢
                    clear hw8 s2 u2
                    have HB8 := Lib.hid hB8
                    have HR8 := Lib.hid hR8
                    have HS8 := Lib.hid hS8
                    have hz8 := hB8.size
                    have hl8 := hR8.lt
                    have hls := hS8.lt
                    have s0 : w8.cell? ⟨gs, 0, none⟩ = some (.int .i64 s.th) := hS8.cell rfl
                    have s1 : w8.cell? ⟨gs, 1, none⟩ = some (.bool s.sh) := hS8.cell rfl
                    have s2 : w8.cell? ⟨gs, 2, none⟩ = some (.int .i64 s.fr) := hS8.cell rfl
                    have s3 : w8.cell? ⟨gs, 3, none⟩ = some (.int .i64 s.til) := hS8.cell rfl
                    have t0 : w8.cell? ⟨g9, (k + 1) * 4, none⟩ = some (.int .i64 v.th) := hR8.cell (styVals_get HVk.out 0 (by omega))
                    have f0 := hR8.frozen ((k + 1) * 4)
                    have t1 : w8.cell? ⟨g9, (k + 1) * 4 + 1, none⟩ = some (.bool v.sh) := hR8.cell (styVals_get HVk.out 1 (by omega))
                    have f1 := hR8.frozen ((k + 1) * 4 + 1)
                    have t2 : w8.cell? ⟨g9, (k + 1) * 4 + 2, none⟩ = some (.int .i64 v.fr) := hR8.cell (styVals_get HVk.out 2 (by omega))
                    have f2 := hR8.frozen ((k + 1) * 4 + 2)
                    have t3 : w8.cell? ⟨g9, (k + 1) * 4 + 3, none⟩ = some (.int .i64 v.til) := hR8.cell (styVals_get HVk.out 3 (by omega))
                    have f3 := hR8.frozen ((k + 1) * 4 + 3)
                    clear hB8 hR8 hS8

                    go_wp2_with fail
                    go_roundg (go - 1)
                    case measure => omega
                    case rel =>
                      refine HEnd2.out _ ((((HB8.out.setCell hB9 _).setCell hB9 _).setCell hB9 _).setCell hB9 _) ?_
                      have h9 := (((HR8.out.set_ ((k + 1) * 4) (.int .i64 s.th)).set_ ((k + 1) * 4 + 1) (.bool s.sh)).set_ ((k + 1) * 4 + 2) (.int .i64 s.fr)).set_ ((k + 1) * 4 + 3) (.int .i64 s.til)
                      rw [styVals_set4 (shf_lt o v (k + 1) hg3) s, shf_set o v s (k + 1) hg3] at h9
                      rw [insL, HD0.out]
                      exact h9

      · have g1 : (x.op != 120) = true := by
          have : x.op ≠ 120 := fun h => c1 (Or.inl h)
          simp [this]
        have g2 : (x.op != 122) = true := by
          have : x.op ≠ 122 := fun h => c1 (Or.inr h)
          simp [this]
        have HI : Hid (x.isStay = false) := by
          show _ = _
          have h1 : x.op ≠ 120 := fun h => c1 (Or.inl h)
          have h2 : x.op ≠ 122 := fun h => c1 (Or.inr h)
          simp [Cal.isStay, h1, h2]
        go_wp2_with fail
        go_roundg (gk - 1)
        case measure => omega
        case rel => exact ⟨j + 1, A3, k3, o, by omega, by go_num, rfl, hB.out.alloc hzr _, hO.out.below ((Below.refl _ _).alloc (Nat.le_refl _) _), by show _ = _; rw [← hD.out, HD2.out, stays0, HI.out]; rfl, by omega⟩
    · obtain rfl : j = calls.length := by omega
      have HE : Hid (o = rstays calls) := by
        show _ = _
        have := hD.out
        rw [List.drop_length] at this
        exact this
      go_wp2_with fail
      go_ret
      have hE := HE.out
      clear HE
      subst hE
      exact ⟨A3, k3, rfl, own_low9 hO.out (by omega), HB1.out.trans (hB.out.mono (by omega))⟩
end Go.Proofs.Ytjnmlgfkiebkgaa
namespace Go.Proofs.Ytjnmlgfkiebkgaa
open Go.RowKit
set_option linter.unusedVariables false
set_option linter.unusedSimpArgs false

theorem wrap_len {v n : Int} (h : 0 ≤ v ∧ v ≤ 18446744073709551615) (hn : 0 ≤ n ∧ n ≤ 1954687338211) : (IntKind.i64.wrap v == n) = (v == n) := by
  by_cases h1 : v ≤ 9223372036854775807
  · rw [IntWalk.i64_in v (by omega)]
  · have e : IntKind.i64.wrap v = v - 18446744073709551616 := by simp [IntKind.wrap, IntKind.bits, IntKind.signed]; omega
    rw [e]
    have a : ¬ v - 18446744073709551616 = n := by omega
    have b : ¬ v = n := by omega
    rw [beq_eq_false_iff_ne.2 a, beq_eq_false_iff_ne.2 b]
/-- the document's touches, by their ends -/
def rtouch (calls : List Cal) : List Cal := (calls.filter Cal.isTouch).foldl (insL (fun z : Cal => z.fin)) []
theorem clash_comm (a b : St) : clash a b = clash b a := by
  unfold clash
  rw [Bool.and_comm b.sh a.sh, Bool.and_comm (!b.apart a)]
theorem anyClash_iff (l : List St) : anyClash l = true ↔ ∃ (a b : Nat) (x y : St), a < b ∧ l[a]? = some x ∧ l[b]? = some y ∧ clash x y = true := by
  induction l with
  | nil => simp [anyClash]
  | cons s l ih =>
    rw [anyClash, Bool.or_eq_true, ih]
    constructor
    · rintro (h | ⟨a, b, x, y, h0, h1, h2, h3⟩)
      · obtain ⟨y, hy, hc⟩ := List.any_eq_true.1 h
        obtain ⟨b, hb, e⟩ := List.mem_iff_getElem.1 hy
        exact ⟨0, b + 1, s, y, by omega, rfl, by rw [List.getElem?_cons_succ, List.getElem?_eq_getElem hb, e], hc⟩
      · exact ⟨a + 1, b + 1, x, y, by omega, h1, h2, h3⟩
    · rintro ⟨a, b, x, y, h0, h1, h2, h3⟩
      cases b with
      | zero => omega
      | succ b =>
        cases a with
        | zero =>
          injection h1 with h1
          subst h1
          exact Or.inl (List.any_eq_true.2 ⟨y, List.mem_of_getElem? h2, h3⟩)
        | succ a => exact Or.inr ⟨a, b, x, y, by omega, h1, h2, h3⟩
/-- no two of the first i clash, nor the i-th with one of the first j -/
def NoCl (l : List St) (i j : Nat) : Prop := (∀ a b x y, b < a → a < i → l[a]? = some x → l[b]? = some y → clash x y = false) ∧ ∀ b x y, b < j → l[i]? = some x → l[b]? = some y → clash x y = false
theorem NoCl.nil (l : List St) : NoCl l 0 0 := ⟨fun a b _ _ _ h => by omega, fun b _ _ h => by omega⟩
theorem NoCl.next {l : List St} {i j : Nat} {x y : St} (h : NoCl l i j) (hx : l[i]? = some x) (hy : l[j]? = some y) (hc : clash x y = false) : NoCl l i (j + 1) :=
  ⟨h.1, fun b x' y' hb hx' hy' => by
    by_cases e : b = j
    · subst e
      rw [hx] at hx'
      rw [hy] at hy'
      injection hx' with hx'
      injection hy' with hy'
      subst hx' hy'
      exact hc
    · exact h.2 b x' y' (by omega) hx' hy'⟩
theorem NoCl.row {l : List St} {i : Nat} (h : NoCl l i i) : NoCl l (i + 1) 0 :=
  ⟨fun a b x y hb ha hx hy => by
    by_cases e : a = i
    · subst e
      exact h.2 b x y hb hx hy
    · exact h.1 a b x y hb (by omega) hx hy, fun b _ _ hb => by omega⟩
theorem NoCl.all {l : List St} {j : Nat} (h : NoCl l l.length j) : anyClash l = false := by
  cases hc : anyClash l with
  | false => rfl
  | true =>
    obtain ⟨a, b, x, y, h0, h1, h2, h3⟩ := (anyClash_iff l).1 hc
    have := h.1 b a y x h0 (List.getElem?_eq_some_iff.1 h2).1 h2 h1
    rw [clash_comm, h3] at this
    cases this
theorem cl_found {l : List St} {i j : Nat} {x y : St} (h : j < i) (hx : l[i]? = some x) (hy : l[j]? = some y) (hc : clash x y = true) : anyClash l = true :=
  (anyClash_iff l).2 ⟨j, i, y, x, h, hy, hx, by rw [clash_comm]; exact hc⟩
theorem calVals_set9 {l : List Cal} {k : Nat} (h : k < l.length) (s : Cal) : (((((((((calVals l).set (k * 9) (.int .i64 s.th)).set (k * 9 + 1) (.int .i64 s.op)).set (k * 9 + 2) (.int .i64 s.arg)).set (k * 9 + 3) (.int .i64 s.dat)).set (k * 9 + 4) (.int .i64 s.beg)).set (k * 9 + 5) (.int .i64 s.fin)).set (k * 9 + 6) (.int .i64 s.pt)).set (k * 9 + 7) (.int .i64 s.ak)).set (k * 9 + 8) (.int .i64 s.av) = calVals (l.set k s) := by
  induction l generalizing k with
  | nil => simp at h
  | cons a l ih =>
    cases k with
    | zero => simp [calVals]
    | succ k =>
      have e : calVals (a :: l) = calL a ++ calVals l := rfl
      have e4 : (calL a).length = 9 := rfl
      rw [e, List.set_cons_succ, show calVals (a :: l.set k s) = calL a ++ calVals (l.set k s) from rfl, ← ih (by simpa using h)]
      rw [List.set_append_right _ _ (by omega), List.set_append_right _ _ (by omega), List.set_append_right _ _ (by omega), List.set_append_right _ _ (by omega), List.set_append_right _ _ (by omega), List.set_append_right _ _ (by omega), List.set_append_right _ _ (by omega), List.set_append_right _ _ (by omega), List.set_append_right _ _ (by omega), e4]
      rw [show (k + 1) * 9 - 9 = k * 9 by omega, show (k + 1) * 9 + 1 - 9 = k * 9 + 1 by omega, show (k + 1) * 9 + 2 - 9 = k * 9 + 2 by omega, show (k + 1) * 9 + 3 - 9 = k * 9 + 3 by omega, show (k + 1) * 9 + 4 - 9 = k * 9 + 4 by omega, show (k + 1) * 9 + 5 - 9 = k * 9 + 5 by omega, show (k + 1) * 9 + 6 - 9 = k * 9 + 6 by omega, show (k + 1) * 9 + 7 - 9 = k * 9 + 7 by omega, show (k + 1) * 9 + 8 - 9 = k * 9 + 8 by omega]
set_option maxRecDepth 100000 in
set_option maxHeartbeats 16000000 in
theorem rholds_any (calls : List Cal) (words : List Int) (Ac At As Aw : Option Addr) (kc nt kt ns ks kw : Nat) (w : World) (h : Sl w w.heap.size 9 Ac calls.length (calVals calls)) (hw : Sl w w.heap.size 1 Aw words.length (u64s words)) (hn : calls.length ≤ 1954687338211) (hm : words.length ≤ 17592186044416) (hwf : ∀ v ∈ words, 0 ≤ v ∧ v ≤ 18446744073709551615) :
    Calls Try.prog 22 #[.agg #[.slice Ac calls.length kc, .slice At nt kt, .slice As ns ks, .slice Aw words.length kw]] w (BoolR (holdsP (rstays calls) (rtouch calls) words) w) := by
  obtain ⟨i1, hi1, hi1z, hi1s, hi1b⟩ := info_parts info_cac
  have HS := Lib.hid h
  have HW := Lib.hid hw
  have HWf := Lib.hid hwf
  have hsl : (rstays calls).length ≤ calls.length := by
    rw [rstays, foldl_ins_len]
    have := stays0_len calls
    simp
    omega
  clear h hw hwf
  go_enter Try.func22, Try.ntmps22
  go_upto_region 1 with fail
  have hb1 : Below w.heap.size w (w.alloc (.cells #[.slice Ac calls.length kc, .slice At nt kt, .slice As ns ks, .slice Aw words.length kw] 39)) := (Below.refl _ _).alloc (Nat.le_refl _) _
  have hr1 : Blk (w.alloc (.cells #[.slice Ac calls.length kc, .slice At nt kt, .slice As ns ks, .slice Aw words.length kw] 39)) w.heap.size 39 [.slice Ac calls.length kc, .slice At nt kt, .slice As ns ks, .slice Aw words.length kw] := Blk.new _ _ _
  generalize w.alloc (.cells #[.slice Ac calls.length kc, .slice At nt kt, .slice As ns ks, .slice Aw words.length kw] 39) = w0 at hb1 hr1 ⊢
  have hrl := hr1.lt
  have hz0 := hb1.size
  have r0 : w0.cell? ⟨w.heap.size, 0, none⟩ = some (.slice Ac calls.length kc) := hr1.cell rfl
  have r1 : w0.cell? ⟨w.heap.size, 1, none⟩ = some (.slice At nt kt) := hr1.cell rfl
  have r2 : w0.cell? ⟨w.heap.size, 2, none⟩ = some (.slice As ns ks) := hr1.cell rfl
  have r3 : w0.cell? ⟨w.heap.size, 3, none⟩ = some (.slice Aw words.length kw) := hr1.cell rfl
  have HR0 := Lib.hid hr1
  have HB0 := Lib.hid hb1
  have hcall := rstays_any calls Ac At As Aw kc nt kt ns ks words.length kw w0 ((HS.out.below HB0.out).up hz0) hn
  have HC := Lib.hid hcall
  clear hb1 hr1 hcall
  go_wp2_with fail
  refine HC.out.mono ?_
  obtain ⟨l, hl⟩ : ∃ l, l = rstays calls := ⟨_, rfl⟩
  rw [← hl] at hsl ⊢
  have HLr := Lib.hid hl
  clear hl
  rintro e w1 ⟨A6, k6, rfl, ho6, hb1⟩
  have hcap := own_cap ho6
  have HO6 := Lib.hid ho6
  have HB1 : Hid (Below w.heap.size w w1) := HB0.out.trans (hb1.mono hz0)
  have HR1 : Hid (Blk w1 w.heap.size 39 [.slice Ac calls.length kc, .slice At nt kt, .slice As ns ks, .slice Aw words.length kw]) := HR0.out.below hb1 hrl
  have hz1 := hb1.size
  have hrl1 := HR1.out.lt
  clear hb1 ho6 HC r0 r1 r2 r3
  go_wp2_with fail
  go_loopg [4] l.length (fun gk i wr => ∃ j : Nat, j + gk = l.length ∧ i = .int .i64 j ∧ Hid (Below w1.heap.size w1 wr) ∧ Hid (NoCl l j 0))
  case atStart => exact ⟨0, by omega, rfl, Below.refl _ _, NoCl.nil l⟩
  case round =>
    obtain ⟨i, hi, rfl, HBi, HN⟩ := hrel
    by_cases hlt : i < l.length
    · obtain ⟨x, hx⟩ := at_lt hlt
      have e1 : (i : Int) < l.length := by omega
      have e0 : (0 : Int) ≤ i := by omega
      obtain ⟨b, f, hA, hbl, hcell⟩ := (Sl.of_own (HO6.out.below HBi.out)).2 (by omega)
      have v0 : wr.cell? ⟨b, f + i * 4, none⟩ = some (.int .i64 x.th) := by have := hcell (i * 4 + 0) _ (styVals_get hx 0 (by omega)); simpa using this
      have v1 : wr.cell? ⟨b, f + i * 4 + 1, none⟩ = some (.bool x.sh) := by have := hcell (i * 4 + 1) _ (styVals_get hx 1 (by omega)); rw [← Nat.add_assoc] at this; exact this
      have v2 : wr.cell? ⟨b, f + i * 4 + 2, none⟩ = some (.int .i64 x.fr) := by have := hcell (i * 4 + 2) _ (styVals_get hx 2 (by omega)); rw [← Nat.add_assoc] at this; exact this
      have v3 : wr.cell? ⟨b, f + i * 4 + 3, none⟩ = some (.int .i64 x.til) := by have := hcell (i * 4 + 3) _ (styVals_get hx 3 (by omega)); rw [← Nat.add_assoc] at this; exact this

      have HX := Lib.hid hx
      have HA := Lib.hid hA
      subst hA
      clear hcell hx
      obtain ⟨go, rfl⟩ : ∃ go : Nat, go = gk := ⟨_, rfl⟩
      obtain ⟨wo, rfl⟩ : ∃ wo : World, wo = wr := ⟨_, rfl⟩
      clear v0 v1 v2 v3
      go_wp2_with fail
      go_loopg [5] i (fun g2 s5 wq => ∃ j : Nat, j + g2 = i ∧ s5 = .int .i64 j ∧ Hid (Below w1.heap.size w1 wq) ∧ Hid (NoCl l i j))
      case atStart => exact ⟨0, by omega, rfl, HBi, HN⟩
      case round =>
        obtain ⟨j, hj, rfl, HBj, HNj⟩ := hrel
        by_cases hltj : j < i
        · obtain ⟨y, hy⟩ := at_lt (show j < l.length by omega)
          have p1 : (j : Int) < i := by omega
          have p2 : (j : Int) < l.length := by omega
          have p0 : (0 : Int) ≤ j := by omega
          have hcell := (Sl.of_own (HO6.out.below HBj.out)).2 (by omega)
          obtain ⟨b', f', hA', hbl', hcell⟩ := hcell
          injection hA' with hA'
          injection hA' with hA1 hA2
          subst hA1 hA2
          have v0 : wr.cell? ⟨b, f + i * 4, none⟩ = some (.int .i64 x.th) := by have := hcell (i * 4 + 0) _ (styVals_get HX.out 0 (by omega)); simpa using this
          have v1 : wr.cell? ⟨b, f + i * 4 + 1, none⟩ = some (.bool x.sh) := by have := hcell (i * 4 + 1) _ (styVals_get HX.out 1 (by omega)); rw [← Nat.add_assoc] at this; exact this
          have v2 : wr.cell? ⟨b, f + i * 4 + 2, none⟩ = some (.int .i64 x.fr) := by have := hcell (i * 4 + 2) _ (styVals_get HX.out 2 (by omega)); rw [← Nat.add_assoc] at this; exact this
          have v3 : wr.cell? ⟨b, f + i * 4 + 3, none⟩ = some (.int .i64 x.til) := by have := hcell (i * 4 + 3) _ (styVals_get HX.out 3 (by omega)); rw [← Nat.add_assoc] at this; exact this

          have u0 : wr.cell? ⟨b, f + j * 4, none⟩ = some (.int .i64 y.th) := by have := hcell (j * 4 + 0) _ (styVals_get hy 0 (by omega)); simpa using this
          have u1 : wr.cell? ⟨b, f + j * 4 + 1, none⟩ = some (.bool y.sh) := by have := hcell (j * 4 + 1) _ (styVals_get hy 1 (by omega)); rw [← Nat.add_assoc] at this; exact this
          have u2 : wr.cell? ⟨b, f + j * 4 + 2, none⟩ = some (.int .i64 y.fr) := by have := hcell (j * 4 + 2) _ (styVals_get hy 2 (by omega)); rw [← Nat.add_assoc] at this; exact this
          have u3 : wr.cell? ⟨b, f + j * 4 + 3, none⟩ = some (.int .i64 y.til) := by have := hcell (j * 4 + 3) _ (styVals_get hy 3 (by omega)); rw [← Nat.add_assoc] at this; exact this

          have hbw : b < wr.heap.size := hbl'
          have HY := Lib.hid hy
          clear hcell hy
          go_upto_region 8 with fail
          go_cut [36] (fun s36 wc => s36 = .bool (x.sh && y.sh) ∧ wc = wr)
          case first =>
            cases h1 : x.sh <;> cases h2 : y.sh
            all_goals (go_wp2_with fail; go_meet; exact ⟨by simp [h1, h2], rfl⟩)
          case rest =>
          obtain ⟨rfl, rfl⟩ := hcut
          cases cs : (x.sh && y.sh) with
          | true =>
            have HCl : Hid (clash x y = false) := by show _ = _; rw [clash, cs]; rfl
            clear cs
            go_wp2_with fail
            go_roundg (gk - 1)
            case measure => omega
            case rel => exact ⟨j + 1, by omega, by go_num, HBj, HNj.out.next HX.out HY.out HCl.out⟩
          | false =>
            have HCl : Hid (clash x y = (!x.apart y && !y.apart x)) := by
              show _ = _
              rw [clash, cs]
              rfl
            clear cs
            go_upto_region 9 with fail
            go_cut [78] (fun s78 wc => s78 = .bool (!x.apart y && !y.apart x) ∧ Hid (Below w1.heap.size w1 wc))
            case first =>
              by_cases ha : x.til = -1
              · have a1 : (x.til != -1) = false := by simp [ha]
                have A9 : Hid (x.apart y = false) := by show _ = _; simp [St.apart, ha]
                by_cases hb : y.til = -1
                · have b1 : (y.til != -1) = false := by simp [hb]
                  have B9 : Hid (y.apart x = false) := by show _ = _; simp [St.apart, hb]
                  go_quiet (fail)
                  go_wp2_with fail
                  go_meet
                  exact ⟨by rw [A9.out, B9.out]; rfl, below_drewN HBj.out nq⟩
                · by_cases hb2 : y.til < x.fr
                  · have b1 : (y.til != -1) = true := by simp [hb]
                    have b2 : decide (y.til < x.fr) = true := decide_eq_true hb2
                    have B9 : Hid (y.apart x = true) := by show _ = _; simp [St.apart, hb, hb2]
                    go_quiet (fail)
                    go_wp2_with fail
                    go_meet
                    exact ⟨by rw [A9.out, B9.out]; rfl, below_drewN HBj.out nq⟩
                  · have b1 : (y.til != -1) = true := by simp [hb]
                    have b2 : decide (y.til < x.fr) = false := decide_eq_false hb2
                    have B9 : Hid (y.apart x = false) := by show _ = _; simp [St.apart, hb2]
                    go_quiet (fail)
                    go_wp2_with fail
                    go_meet
                    exact ⟨by rw [A9.out, B9.out]; rfl, below_drewN HBj.out nq⟩
              · by_cases ha2 : x.til < y.fr
                · have a1 : (x.til != -1) = true := by simp [ha]
                  have a2 : decide (x.til < y.fr) = true := decide_eq_true ha2
                  have A9 : Hid (x.apart y = true) := by show _ = _; simp [St.apart, ha, ha2]
                  go_quiet (fail)
                  go_wp2_with fail
                  go_meet
                  exact ⟨by rw [A9.out]; rfl, below_drewN HBj.out nq⟩
                · have a1 : (x.til != -1) = true := by simp [ha]
                  have a2 : decide (x.til < y.fr) = false := decide_eq_false ha2
                  have A9 : Hid (x.apart y = false) := by show _ = _; simp [St.apart, ha2]
                  by_cases hb : y.til = -1
                  · have b1 : (y.til != -1) = false := by simp [hb]
                    have B9 : Hid (y.apart x = false) := by show _ = _; simp [St.apart, hb]
                    go_quiet (fail)
                    go_wp2_with fail
                    go_meet
                    exact ⟨by rw [A9.out, B9.out]; rfl, below_drewN HBj.out nq⟩
                  · by_cases hb2 : y.til < x.fr
                    · have b1 : (y.til != -1) = true := by simp [hb]
                      have b2 : decide (y.til < x.fr) = true := decide_eq_true hb2
                      have B9 : Hid (y.apart x = true) := by show _ = _; simp [St.apart, hb, hb2]
                      go_quiet (fail)
                      go_wp2_with fail
                      go_meet
                      exact ⟨by rw [A9.out, B9.out]; rfl, below_drewN HBj.out nq⟩
                    · have b1 : (y.til != -1) = true := by simp [hb]
                      have b2 : decide (y.til < x.fr) = false := decide_eq_false hb2
                      have B9 : Hid (y.apart x = false) := by show _ = _; simp [St.apart, hb2]
                      go_quiet (fail)
                      go_wp2_with fail
                      go_meet
                      exact ⟨by rw [A9.out, B9.out]; rfl, below_drewN HBj.out nq⟩
            case rest =>
              obtain ⟨rfl, HBc⟩ := hcut
              cases hc : (!x.apart y && !y.apart x) with
              | true =>
                have HF : Hid (anyClash l = true) := cl_found hltj HX.out HY.out (by rw [HCl.out, hc])
                clear hc
                go_wp2_with fail
                go_ret
                exact ⟨by rw [← HLr.out, holdsP, HF.out]; rfl, HB1.out.trans (HBc.out.mono (by omega))⟩
              | false =>
                have HC9 : Hid (clash x y = false) := by show _ = _; rw [HCl.out, hc]
                clear hc
                go_wp2_with fail
                go_roundg (gk - 1)
                case measure => omega
                case rel => exact ⟨j + 1, by omega, by go_num, HBc, HNj.out.next HX.out HY.out HC9.out⟩
        · obtain rfl : j = i := by omega
          go_wp2_with fail
          go_roundg (go - 1)
          case measure => omega
          case rel => exact ⟨j + 1, by omega, by go_num, HBj, HNj.out.row⟩
    · obtain rfl : i = l.length := by omega
      have HNo : Hid (anyClash l = false) := HN.out.all
      clear HN
      have HR1 : Hid (Blk wr w.heap.size 39 [.slice Ac calls.length kc, .slice At nt kt, .slice As ns ks, .slice Aw words.length kw]) := HR1.out.below HBi.out hrl1
      have HB1 : Hid (Below w.heap.size w wr) := HB1.out.trans (HBi.out.mono (by omega))
      have hz1 := HB1.out.size
      have hrl1 := HR1.out.lt
      clear HBi HO6
      obtain ⟨w0', hw0⟩ : ∃ w0' : World, w0' = w1 := ⟨_, rfl⟩
      clear hw0
      obtain ⟨w1, rfl⟩ : ∃ w1 : World, w1 = wr := ⟨_, rfl⟩
      have r0 : w1.cell? ⟨w.heap.size, 0, none⟩ = some (.slice Ac calls.length kc) := HR1.out.cell rfl
      go_wp2_with fail
      go_loopg [6, 82] calls.length (fun gk s6 i wr => ∃ (j : Nat) (A7 : Option Addr) (k7 : Nat) (o : List Cal), j + gk = calls.length ∧ i = .int .i64 j ∧ s6 = .slice A7 o.length k7 ∧ Hid (Below w1.heap.size w1 wr) ∧ Hid (wr.ownsRow w1.heap.size 62 9 s6 o.length (calVals o)) ∧ Hid (((calls.drop j).filter Cal.isTouch).foldl (insL (fun z : Cal => z.fin)) o = rtouch calls) ∧ o.length ≤ j)
      case atStart => exact ⟨0, none, 0, [], by omega, rfl, rfl, Below.refl _ _, World.ownsRow_nil _ _ _ _, by show _ = _; rfl, Nat.zero_le _⟩
      case round =>
        obtain ⟨j, A7, k7, o, hj, rfl, rfl, hB, hO, hD, hol⟩ := hrel
        by_cases hlt : j < calls.length
        · obtain ⟨x, hx⟩ := at_lt hlt
          have e1 : (j : Int) < calls.length := by omega
          have e0 : (0 : Int) ≤ j := by omega
          have hs := (HS.out.below (HB1.out.trans (hB.out.mono (by omega)))).2 (by omega)
          obtain ⟨b, f, hA, hbl, hcell⟩ := hs
          have v0 : wr.cell? ⟨b, f + j * 9, none⟩ = some (.int .i64 x.th) := by have := hcell (j * 9 + 0) _ (calVals_get hx 0 (by omega)); simpa using this
          have v1 : wr.cell? ⟨b, f + j * 9 + 1, none⟩ = some (.int .i64 x.op) := by have := hcell (j * 9 + 1) _ (calVals_get hx 1 (by omega)); rw [← Nat.add_assoc] at this; exact this
          have v2 : wr.cell? ⟨b, f + j * 9 + 2, none⟩ = some (.int .i64 x.arg) := by have := hcell (j * 9 + 2) _ (calVals_get hx 2 (by omega)); rw [← Nat.add_assoc] at this; exact this
          have v3 : wr.cell? ⟨b, f + j * 9 + 3, none⟩ = some (.int .i64 x.dat) := by have := hcell (j * 9 + 3) _ (calVals_get hx 3 (by omega)); rw [← Nat.add_assoc] at this; exact this
          have v4 : wr.cell? ⟨b, f + j * 9 + 4, none⟩ = some (.int .i64 x.beg) := by have := hcell (j * 9 + 4) _ (calVals_get hx 4 (by omega)); rw [← Nat.add_assoc] at this; exact this
          have v5 : wr.cell? ⟨b, f + j * 9 + 5, none⟩ = some (.int .i64 x.fin) := by have := hcell (j * 9 + 5) _ (calVals_get hx 5 (by omega)); rw [← Nat.add_assoc] at this; exact this
          have v6 : wr.cell? ⟨b, f + j * 9 + 6, none⟩ = some (.int .i64 x.pt) := by have := hcell (j * 9 + 6) _ (calVals_get hx 6 (by omega)); rw [← Nat.add_assoc] at this; exact this
          have v7 : wr.cell? ⟨b, f + j * 9 + 7, none⟩ = some (.int .i64 x.ak) := by have := hcell (j * 9 + 7) _ (calVals_get hx 7 (by omega)); rw [← Nat.add_assoc] at this; exact this
          have v8 : wr.cell? ⟨b, f + j * 9 + 8, none⟩ = some (.int .i64 x.av) := by have := hcell (j * 9 + 8) _ (calVals_get hx 8 (by omega)); rw [← Nat.add_assoc] at this; exact this

          have hzr := hB.out.size
          have hD2 : calls.drop j = x :: calls.drop (j + 1) := drop_cons hx
          have HD2 := Lib.hid hD2
          subst hA
          have hbe : b < wr.heap.size := by omega
          clear hcell hx hD2
          by_cases c1 : x.op = 124
          · have g1 : (x.op != 124) = false := by simp [c1]
            by_cases c2 : x.fin = -1
            · have f1 : (x.fin == -1) = true := by simp [c2]
              have HI : Hid (x.isTouch = false) := by show _ = _; simp [Cal.isTouch, c2]
              go_wp2_with fail
              go_roundg (gk - 1)
              case measure => omega
              case rel => exact ⟨j + 1, A7, k7, o, by omega, by go_num, rfl, hB.out.alloc hzr _, hO.out.below ((Below.refl _ _).alloc (Nat.le_refl _) _), by show _ = _; rw [← hD.out, HD2.out, List.filter_cons_of_neg (by rw [HI.out]; simp)], by omega⟩
            · have f1 : (x.fin == -1) = false := by simp [c2]
              have HI : Hid (x.isTouch = true) := by show _ = _; simp [Cal.isTouch, c1, c2]
              go_upto_region 16 with fail
              have hb2 : Below wr.heap.size wr (wr.alloc (.cells #[.int .i64 x.th, .int .i64 124, .int .i64 x.arg, .int .i64 x.dat, .int .i64 x.beg, .int .i64 x.fin, .int .i64 x.pt, .int .i64 x.ak, .int .i64 x.av] 62)) := (Below.refl _ _).alloc (Nat.le_refl _) _
              have hs2 : Blk (wr.alloc (.cells #[.int .i64 x.th, .int .i64 124, .int .i64 x.arg, .int .i64 x.dat, .int .i64 x.beg, .int .i64 x.fin, .int .i64 x.pt, .int .i64 x.ak, .int .i64 x.av] 62)) wr.heap.size 62 [.int .i64 x.th, .int .i64 124, .int .i64 x.arg, .int .i64 x.dat, .int .i64 x.beg, .int .i64 x.fin, .int .i64 x.pt, .int .i64 x.ak, .int .i64 x.av] := Blk.new _ _ _
              generalize wr.alloc (.cells #[.int .i64 x.th, .int .i64 124, .int .i64 x.arg, .int .i64 x.dat, .int .i64 x.beg, .int .i64 x.fin, .int .i64 x.pt, .int .i64 x.ak, .int .i64 x.av] 62) = V at hb2 hs2 ⊢
              have hls2 : [.int .i64 x.th, .int .i64 124, .int .i64 x.arg, .int .i64 x.dat, .int .i64 x.beg, .int .i64 x.fin, .int .i64 x.pt, .int .i64 x.ak, .int .i64 x.av] = calL x := by rw [← c1]
              rw [hls2] at hs2
              obtain ⟨s, hs⟩ : ∃ s, s = x := ⟨_, rfl⟩
              rw [← hs] at hs2 HI HD2
              have HBt : Hid (Below w1.heap.size w1 V) := hB.out.trans (hb2.mono hzr)
              have HOt : Hid (V.ownsRow w1.heap.size 62 9 (.slice A7 o.length k7) o.length (calVals o)) := hO.out.below hb2
              have HSt := Lib.hid hs2
              have HNe : Hid (∀ r, (Value.slice A7 o.length k7).ownBlock = some r → w1.heap.size ≤ r ∧ r < wr.heap.size) := Lib.hid fun r hr => hO.out.lt r hr
              have e0 : V.cell? ⟨wr.heap.size, 0, none⟩ = some (.int .i64 s.th) := hs2.cell rfl
              have e1 : V.cell? ⟨wr.heap.size, 1, none⟩ = some (.int .i64 s.op) := hs2.cell rfl
              have e2 : V.cell? ⟨wr.heap.size, 2, none⟩ = some (.int .i64 s.arg) := hs2.cell rfl
              have e3 : V.cell? ⟨wr.heap.size, 3, none⟩ = some (.int .i64 s.dat) := hs2.cell rfl
              have e4 : V.cell? ⟨wr.heap.size, 4, none⟩ = some (.int .i64 s.beg) := hs2.cell rfl
              have e5 : V.cell? ⟨wr.heap.size, 5, none⟩ = some (.int .i64 s.fin) := hs2.cell rfl
              have e6 : V.cell? ⟨wr.heap.size, 6, none⟩ = some (.int .i64 s.pt) := hs2.cell rfl
              have e7 : V.cell? ⟨wr.heap.size, 7, none⟩ = some (.int .i64 s.ak) := hs2.cell rfl
              have e8 : V.cell? ⟨wr.heap.size, 8, none⟩ = some (.int .i64 s.av) := hs2.cell rfl

              have hzV := hs2.lt
              have hzt := HBt.out.size
              obtain ⟨wo, rfl⟩ : ∃ wo : World, wo = wr := ⟨_, rfl⟩
              obtain ⟨gs, hgs⟩ : ∃ gs, gs = wo.heap.size := ⟨_, rfl⟩
              rw [← hgs] at HSt e0 e1 e2 e3 e4 e5 e6 e7 e8 hzV HNe ⊢
              clear v0 v1 v2 v3 v4 v5 v6 v7 v8 hs2 hb2 hls2 hs hgs
              go_wp2_with (at_builtin; go_must (refine wpList_app _ rfl _ _ 35 rfl w1.heap.size 62 i1 (.agg #[.int .i64 0, .int .i64 0, .int .i64 0, .int .i64 0, .int .i64 0, .int .i64 0, .int .i64 0, .int .i64 0, .int .i64 0]) 9 72 Try.underlying35 hi1 hi1z hi1s hi1b rfl (by decide) (.slice A7 o.length k7) o.length (calVals o) rfl (HOt.out.alloc _) (V.heap.size + 1) (some ⟨V.heap.size, 0, none⟩) 1 1 (calL s) rfl (((Blk.new V 62 _).sl rfl).up (by simp)) (calL_one _) (o.length + 1) rfl _ rfl _ rfl (by simp only [maxLen]; omega) (by omega) (by rw [World.size_alloc]; omega) ?_; intro A9 k9 w9 hown9 hg9 hat9 hk9 hk9'))
              obtain ⟨g9, rfl, hB9, hR9⟩ := Rw.of_own hown9 (by omega)
              have HB9 : Hid (Below w1.heap.size w1 w9) := (HBt.out.alloc hzt _).grown hg9 (by rw [World.size_alloc]; omega) (fun r hr => (HNe.out r hr).1)
              have HS9 : Hid (Blk w9 gs 62 (calL s)) := (HSt.out.alloc _).grown hg9 (fun e => by have := (HNe.out _ e.symm).2; omega)
              have hn9 : g9 ≠ gs := fun e => by
                rw [e] at hat9
                rcases hat9 with h9 | h9
                · have := (HNe.out _ h9.symm).2; dsimp only at this; omega
                · injection h9 with h9; rw [World.size_alloc] at h9; dsimp only at h9; omega
              rw [calVals_snoc] at hR9
              have HR9 := Lib.hid hR9
              have hz9 := HB9.out.size
              have hl9 := HS9.out.lt
              clear hown9 hg9 hat9 hR9 HSt HBt HOt e0 e1 e2 e3 e4 e5 e6 e7 e8 hzV HNe
              obtain ⟨go, rfl⟩ : ∃ go : Nat, go = gk := ⟨_, rfl⟩
              go_loopg [9] o.length (fun g3 i wq => ∃ (v : Cal) (z : Int), g3 ≤ o.length ∧ i = .int .i64 z ∧ z = g3 ∧ Hid (Rw wq g9 62 9 (o.length + 1) k9 (calVals (o.take g3 ++ v :: o.drop g3))) ∧ Hid (dwn (fun z : Cal => z.fin) o s o.length = dwn (fun z : Cal => z.fin) o s g3) ∧ Hid (Below w1.heap.size w1 wq) ∧ Hid (Blk wq gs 62 (calL s)))
              case atStart => exact ⟨s, o.length, Nat.le_refl _, rfl, rfl, by show Rw _ _ _ _ _ _ _; rw [List.take_length, List.drop_length]; exact HR9.out, rfl, HB9.out, HS9.out⟩
              case round =>
                obtain ⟨v, z, hg3, rfl, hz0, HRq, HDw, HBq, HSq⟩ := hrel
                have hzq := HBq.out.size
                have hvk := shf_get o v gk hg3
                have HEnd2 : Hid (∀ W : World, Below w1.heap.size w1 W → Rw W g9 62 9 (o.length + 1) k9 (calVals (insL (fun z : Cal => z.fin) o s)) → ∃ (j' : Nat) (A7 : Option Addr) (k7 : Nat) (o' : List Cal), j' + (go - 1) = calls.length ∧ (Value.int .i64 ((j : Int) + 1)) = .int .i64 j' ∧ (Value.slice (some ⟨g9, 0, none⟩) (o.length + 1) k9) = .slice A7 o'.length k7 ∧ Hid (Below w1.heap.size w1 W) ∧ Hid (W.ownsRow w1.heap.size 62 9 (Value.slice (some ⟨g9, 0, none⟩) (o.length + 1) k9) o'.length (calVals o')) ∧ Hid (((calls.drop j').filter Cal.isTouch).foldl (insL (fun z : Cal => z.fin)) o' = rtouch calls) ∧ o'.length ≤ j') := Lib.hid (by
                  intro W HB8 HR8
                  refine ⟨j + 1, _, _, insL (fun z : Cal => z.fin) o s, by omega, by go_num, by rw [insL_len], HB8, ?_, ?_, by rw [insL_len]; omega⟩
                  · show World.ownsRow _ _ _ _ _ _ _
                    rw [insL_len]
                    exact HR8.own hB9
                  · show _ = _
                    rw [← hD.out, HD2.out, List.filter_cons_of_pos HI.out]
                    rfl)
                have s2 : wr.cell? ⟨gs, 5, none⟩ = some (.int .i64 s.fin) := HSq.out.cell rfl
                by_cases hk0 : gk = 0
                · subst hk0
                  obtain rfl : z = 0 := hz0
                  have HD0 : Hid (dwn (fun z : Cal => z.fin) o s o.length = 0) := by show _ = _; rw [HDw.out]; rfl
                  have d0 : decide ((0 : Int) < 0) = false := rfl
                  clear HDw
                  go_upto_region 18 with fail
                  go_quiet (fail)
                  obtain ⟨w8, hw8⟩ : ∃ w8 : World, w8 = wr.drewN nq := ⟨_, rfl⟩
                  have hB8 : Below w1.heap.size w1 (wr.drewN nq) := below_drewN HBq.out nq
                  have hR8 : Rw (wr.drewN nq) g9 62 9 (o.length + 1) k9 _ := HRq.out.below (below_drewN (Below.refl _ _) nq) HRq.out.lt
                  have hS8 : Blk (wr.drewN nq) gs 62 (calL s) := HSq.out.below (below_drewN (Below.refl _ _) nq) HSq.out.lt
                  rw [← hw8] at hB8 hR8 hS8 ⊢
                  clear hw8 s2 
                  have HB8 := Lib.hid hB8
                  have HR8 := Lib.hid hR8
                  have HS8 := Lib.hid hS8
                  have hz8 := hB8.size
                  have hl8 := hR8.lt
                  have hls := hS8.lt
                  have s0 : w8.cell? ⟨gs, 0, none⟩ = some (.int .i64 s.th) := hS8.cell rfl
                  have s1 : w8.cell? ⟨gs, 1, none⟩ = some (.int .i64 s.op) := hS8.cell rfl
                  have s2 : w8.cell? ⟨gs, 2, none⟩ = some (.int .i64 s.arg) := hS8.cell rfl
                  have s3 : w8.cell? ⟨gs, 3, none⟩ = some (.int .i64 s.dat) := hS8.cell rfl
                  have s4 : w8.cell? ⟨gs, 4, none⟩ = some (.int .i64 s.beg) := hS8.cell rfl
                  have s5 : w8.cell? ⟨gs, 5, none⟩ = some (.int .i64 s.fin) := hS8.cell rfl
                  have s6 : w8.cell? ⟨gs, 6, none⟩ = some (.int .i64 s.pt) := hS8.cell rfl
                  have s7 : w8.cell? ⟨gs, 7, none⟩ = some (.int .i64 s.ak) := hS8.cell rfl
                  have s8 : w8.cell? ⟨gs, 8, none⟩ = some (.int .i64 s.av) := hS8.cell rfl
                  have t0 : w8.cell? ⟨g9, 0, none⟩ = some (.int .i64 v.th) := hR8.cell (calVals_get hvk 0 (by omega))
                  have f0 := hR8.frozen (0)
                  have t1 : w8.cell? ⟨g9, 1, none⟩ = some (.int .i64 v.op) := hR8.cell (calVals_get hvk 1 (by omega))
                  have f1 := hR8.frozen (1)
                  have t2 : w8.cell? ⟨g9, 2, none⟩ = some (.int .i64 v.arg) := hR8.cell (calVals_get hvk 2 (by omega))
                  have f2 := hR8.frozen (2)
                  have t3 : w8.cell? ⟨g9, 3, none⟩ = some (.int .i64 v.dat) := hR8.cell (calVals_get hvk 3 (by omega))
                  have f3 := hR8.frozen (3)
                  have t4 : w8.cell? ⟨g9, 4, none⟩ = some (.int .i64 v.beg) := hR8.cell (calVals_get hvk 4 (by omega))
                  have f4 := hR8.frozen (4)
                  have t5 : w8.cell? ⟨g9, 5, none⟩ = some (.int .i64 v.fin) := hR8.cell (calVals_get hvk 5 (by omega))
                  have f5 := hR8.frozen (5)
                  have t6 : w8.cell? ⟨g9, 6, none⟩ = some (.int .i64 v.pt) := hR8.cell (calVals_get hvk 6 (by omega))
                  have f6 := hR8.frozen (6)
                  have t7 : w8.cell? ⟨g9, 7, none⟩ = some (.int .i64 v.ak) := hR8.cell (calVals_get hvk 7 (by omega))
                  have f7 := hR8.frozen (7)
                  have t8 : w8.cell? ⟨g9, 8, none⟩ = some (.int .i64 v.av) := hR8.cell (calVals_get hvk 8 (by omega))
                  have f8 := hR8.frozen (8)
                  clear hB8 hR8 hS8

                  go_wp2_with fail
                  go_roundg (go - 1)
                  case measure => omega
                  case rel =>
                    refine HEnd2.out _ (((((((((HB8.out.setCell hB9 _).setCell hB9 _).setCell hB9 _).setCell hB9 _).setCell hB9 _).setCell hB9 _).setCell hB9 _).setCell hB9 _).setCell hB9 _) ?_
                    have h9 := ((((((((HR8.out.set_ (0 * 9) (.int .i64 s.th)).set_ (0 * 9 + 1) (.int .i64 s.op)).set_ (0 * 9 + 2) (.int .i64 s.arg)).set_ (0 * 9 + 3) (.int .i64 s.dat)).set_ (0 * 9 + 4) (.int .i64 s.beg)).set_ (0 * 9 + 5) (.int .i64 s.fin)).set_ (0 * 9 + 6) (.int .i64 s.pt)).set_ (0 * 9 + 7) (.int .i64 s.ak)).set_ (0 * 9 + 8) (.int .i64 s.av)
                    rw [calVals_set9 (shf_lt o v 0 hg3) s, shf_set o v s 0 hg3] at h9
                    rw [insL, HD0.out]
                    exact h9

                · obtain ⟨k, rfl⟩ : ∃ k, gk = k + 1 := ⟨gk - 1, by omega⟩
                  obtain rfl : z = (k : Int) + 1 := by omega
                  have hko : k < o.length := by omega
                  obtain ⟨p, hp⟩ : ∃ p, p = o[k] := ⟨_, rfl⟩
                  have hpk := shf_prev o v k hko
                  have hpb : o[k]! = p := by rw [getElem!_pos o k hko, hp]
                  rw [← hp] at hpk
                  have u2 : wr.cell? ⟨g9, k * 9 + 5, none⟩ = some (.int .i64 p.fin) := HRq.out.cell (calVals_get hpk 5 (by omega))
                  have HDk : Hid (dwn (fun z : Cal => z.fin) o s (k + 1) = bif decide (s.fin < p.fin) then dwn (fun z : Cal => z.fin) o s k else k + 1) := by show _ = _; rw [dwn, hpb]
                  have HPk := Lib.hid hpk
                  have HVk := Lib.hid hvk
                  have h8s := shf_step o v k hko
                  rw [← hp] at h8s
                  have H8s := Lib.hid h8s
                  clear hp hpb hpk hvk hk0 h8s hz0
                  have q4 : (k : Int) + 1 < (o.length : Int) + 1 := by omega
                  have q5 : (0 : Int) ≤ (k : Int) + 1 := by omega
                  have q6 : ((k : Int) + 1).toNat = k + 1 := by omega
                  have d0 : decide ((0 : Int) < (k : Int) + 1) = true := decide_eq_true (by omega)
                  have q0 : (0 : Int) < (k : Int) + 1 := by omega
                  have q1 : IntKind.i64.wrap (k : Int) = k := IntWalk.i64_in _ (by omega)
                  have q2 : (k : Int) < (o.length : Int) + 1 := by omega
                  have q3 : (0 : Int) ≤ k := by omega
                  by_cases hd : s.fin < p.fin
                  · have d1 : decide (s.fin < p.fin) = true := decide_eq_true hd
                    have HD1 := Lib.hid d1
                    go_upto_region 18 with fail
                    go_quiet (fail)
                    obtain ⟨w8, hw8⟩ : ∃ w8 : World, w8 = wr.drewN nq := ⟨_, rfl⟩
                    have hB8 : Below w1.heap.size w1 (wr.drewN nq) := below_drewN HBq.out nq
                    have hR8 : Rw (wr.drewN nq) g9 62 9 (o.length + 1) k9 _ := HRq.out.below (below_drewN (Below.refl _ _) nq) HRq.out.lt
                    have hS8 : Blk (wr.drewN nq) gs 62 (calL s) := HSq.out.below (below_drewN (Below.refl _ _) nq) HSq.out.lt
                    rw [← hw8] at hB8 hR8 hS8 ⊢
                    clear hw8 s2 u2
                    have HB8 := Lib.hid hB8
                    have HR8 := Lib.hid hR8
                    have HS8 := Lib.hid hS8
                    have hz8 := hB8.size
                    have hl8 := hR8.lt
                    have hls := hS8.lt
                    have s0 : w8.cell? ⟨gs, 0, none⟩ = some (.int .i64 s.th) := hS8.cell rfl
                    have s1 : w8.cell? ⟨gs, 1, none⟩ = some (.int .i64 s.op) := hS8.cell rfl
                    have s2 : w8.cell? ⟨gs, 2, none⟩ = some (.int .i64 s.arg) := hS8.cell rfl
                    have s3 : w8.cell? ⟨gs, 3, none⟩ = some (.int .i64 s.dat) := hS8.cell rfl
                    have s4 : w8.cell? ⟨gs, 4, none⟩ = some (.int .i64 s.beg) := hS8.cell rfl
                    have s5 : w8.cell? ⟨gs, 5, none⟩ = some (.int .i64 s.fin) := hS8.cell rfl
                    have s6 : w8.cell? ⟨gs, 6, none⟩ = some (.int .i64 s.pt) := hS8.cell rfl
                    have s7 : w8.cell? ⟨gs, 7, none⟩ = some (.int .i64 s.ak) := hS8.cell rfl
                    have s8 : w8.cell? ⟨gs, 8, none⟩ = some (.int .i64 s.av) := hS8.cell rfl
                    have t0 : w8.cell? ⟨g9, (k + 1) * 9, none⟩ = some (.int .i64 v.th) := hR8.cell (calVals_get HVk.out 0 (by omega))
                    have f0 := hR8.frozen ((k + 1) * 9)
                    have t1 : w8.cell? ⟨g9, (k + 1) * 9 + 1, none⟩ = some (.int .i64 v.op) := hR8.cell (calVals_get HVk.out 1 (by omega))
                    have f1 := hR8.frozen ((k + 1) * 9 + 1)
                    have t2 : w8.cell? ⟨g9, (k + 1) * 9 + 2, none⟩ = some (.int .i64 v.arg) := hR8.cell (calVals_get HVk.out 2 (by omega))
                    have f2 := hR8.frozen ((k + 1) * 9 + 2)
                    have t3 : w8.cell? ⟨g9, (k + 1) * 9 + 3, none⟩ = some (.int .i64 v.dat) := hR8.cell (calVals_get HVk.out 3 (by omega))
                    have f3 := hR8.frozen ((k + 1) * 9 + 3)
                    have t4 : w8.cell? ⟨g9, (k + 1) * 9 + 4, none⟩ = some (.int .i64 v.beg) := hR8.cell (calVals_get HVk.out 4 (by omega))
                    have f4 := hR8.frozen ((k + 1) * 9 + 4)
                    have t5 : w8.cell? ⟨g9, (k + 1) * 9 + 5, none⟩ = some (.int .i64 v.fin) := hR8.cell (calVals_get HVk.out 5 (by omega))
                    have f5 := hR8.frozen ((k + 1) * 9 + 5)
                    have t6 : w8.cell? ⟨g9, (k + 1) * 9 + 6, none⟩ = some (.int .i64 v.pt) := hR8.cell (calVals_get HVk.out 6 (by omega))
                    have f6 := hR8.frozen ((k + 1) * 9 + 6)
                    have t7 : w8.cell? ⟨g9, (k + 1) * 9 + 7, none⟩ = some (.int .i64 v.ak) := hR8.cell (calVals_get HVk.out 7 (by omega))
                    have f7 := hR8.frozen ((k + 1) * 9 + 7)
                    have t8 : w8.cell? ⟨g9, (k + 1) * 9 + 8, none⟩ = some (.int .i64 v.av) := hR8.cell (calVals_get HVk.out 8 (by omega))
                    have f8 := hR8.frozen ((k + 1) * 9 + 8)
                    clear hB8 hR8 hS8

                    have u0 : w8.cell? ⟨g9, k * 9, none⟩ = some (.int .i64 p.th) := HR8.out.cell (calVals_get HPk.out 0 (by omega))
                    have u1 : w8.cell? ⟨g9, k * 9 + 1, none⟩ = some (.int .i64 p.op) := HR8.out.cell (calVals_get HPk.out 1 (by omega))
                    have u2 : w8.cell? ⟨g9, k * 9 + 2, none⟩ = some (.int .i64 p.arg) := HR8.out.cell (calVals_get HPk.out 2 (by omega))
                    have u3 : w8.cell? ⟨g9, k * 9 + 3, none⟩ = some (.int .i64 p.dat) := HR8.out.cell (calVals_get HPk.out 3 (by omega))
                    have u4 : w8.cell? ⟨g9, k * 9 + 4, none⟩ = some (.int .i64 p.beg) := HR8.out.cell (calVals_get HPk.out 4 (by omega))
                    have u5 : w8.cell? ⟨g9, k * 9 + 5, none⟩ = some (.int .i64 p.fin) := HR8.out.cell (calVals_get HPk.out 5 (by omega))
                    have u6 : w8.cell? ⟨g9, k * 9 + 6, none⟩ = some (.int .i64 p.pt) := HR8.out.cell (calVals_get HPk.out 6 (by omega))
                    have u7 : w8.cell? ⟨g9, k * 9 + 7, none⟩ = some (.int .i64 p.ak) := HR8.out.cell (calVals_get HPk.out 7 (by omega))
                    have u8 : w8.cell? ⟨g9, k * 9 + 8, none⟩ = some (.int .i64 p.av) := HR8.out.cell (calVals_get HPk.out 8 (by omega))

                    go_wp2_with fail
                    go_roundg k
                    case measure => omega
                    case rel =>
                      refine ⟨p, k, by omega, by go_num, rfl, ?_, by show _ = _; rw [HDw.out, HDk.out, HD1.out]; rfl, ((((((((HB8.out.setCell hB9 _).setCell hB9 _).setCell hB9 _).setCell hB9 _).setCell hB9 _).setCell hB9 _).setCell hB9 _).setCell hB9 _).setCell hB9 _, ((((((((HS8.out.far hn9.symm _).far hn9.symm _).far hn9.symm _).far hn9.symm _).far hn9.symm _).far hn9.symm _).far hn9.symm _).far hn9.symm _).far hn9.symm _⟩
                      have h9 := ((((((((HR8.out.set_ ((k + 1) * 9) (.int .i64 p.th)).set_ ((k + 1) * 9 + 1) (.int .i64 p.op)).set_ ((k + 1) * 9 + 2) (.int .i64 p.arg)).set_ ((k + 1) * 9 + 3) (.int .i64 p.dat)).set_ ((k + 1) * 9 + 4) (.int .i64 p.beg)).set_ ((k + 1) * 9 + 5) (.int .i64 p.fin)).set_ ((k + 1) * 9 + 6) (.int .i64 p.pt)).set_ ((k + 1) * 9 + 7) (.int .i64 p.ak)).set_ ((k + 1) * 9 + 8) (.int .i64 p.av)
                      rwa [calVals_set9 (shf_lt o v (k + 1) hg3) p, H8s.out] at h9
                  · have d1 : decide (s.fin < p.fin) = false := decide_eq_false hd
                    have HD0 : Hid (dwn (fun z : Cal => z.fin) o s o.length = k + 1) := by show _ = _; rw [HDw.out, HDk.out, d1]; rfl
                    go_upto_region 18 with fail
                    go_quiet (fail)
                    obtain ⟨w8, hw8⟩ : ∃ w8 : World, w8 = wr.drewN nq := ⟨_, rfl⟩
                    have hB8 : Below w1.heap.size w1 (wr.drewN nq) := below_drewN HBq.out nq
                    have hR8 : Rw (wr.drewN nq) g9 62 9 (o.length + 1) k9 _ := HRq.out.below (below_drewN (Below.refl _ _) nq) HRq.out.lt
                    have hS8 : Blk (wr.drewN nq) gs 62 (calL s) := HSq.out.below (below_drewN (Below.refl _ _) nq) HSq.out.lt
                    rw [← hw8] at hB8 hR8 hS8 ⊢
                    clear hw8 s2 u2
                    have HB8 := Lib.hid hB8
                    have HR8 := Lib.hid hR8
                    have HS8 := Lib.hid hS8
                    have hz8 := hB8.size
                    have hl8 := hR8.lt
                    have hls := hS8.lt
                    have s0 : w8.cell? ⟨gs, 0, none⟩ = some (.int .i64 s.th) := hS8.cell rfl
                    have s1 : w8.cell? ⟨gs, 1, none⟩ = some (.int .i64 s.op) := hS8.cell rfl
                    have s2 : w8.cell? ⟨gs, 2, none⟩ = some (.int .i64 s.arg) := hS8.cell rfl
                    have s3 : w8.cell? ⟨gs, 3, none⟩ = some (.int .i64 s.dat) := hS8.cell rfl
                    have s4 : w8.cell? ⟨gs, 4, none⟩ = some (.int .i64 s.beg) := hS8.cell rfl
                    have s5 : w8.cell? ⟨gs, 5, none⟩ = some (.int .i64 s.fin) := hS8.cell rfl
                    have s6 : w8.cell? ⟨gs, 6, none⟩ = some (.int .i64 s.pt) := hS8.cell rfl
                    have s7 : w8.cell? ⟨gs, 7, none⟩ = some (.int .i64 s.ak) := hS8.cell rfl
                    have s8 : w8.cell? ⟨gs, 8, none⟩ = some (.int .i64 s.av) := hS8.cell rfl
                    have t0 : w8.cell? ⟨g9, (k + 1) * 9, none⟩ = some (.int .i64 v.th) := hR8.cell (calVals_get HVk.out 0 (by omega))
                    have f0 := hR8.frozen ((k + 1) * 9)
                    have t1 : w8.cell? ⟨g9, (k + 1) * 9 + 1, none⟩ = some (.int .i64 v.op) := hR8.cell (calVals_get HVk.out 1 (by omega))
                    have f1 := hR8.frozen ((k + 1) * 9 + 1)
                    have t2 : w8.cell? ⟨g9, (k + 1) * 9 + 2, none⟩ = some (.int .i64 v.arg) := hR8.cell (calVals_get HVk.out 2 (by omega))
                    have f2 := hR8.frozen ((k + 1) * 9 + 2)
                    have t3 : w8.cell? ⟨g9, (k + 1) * 9 + 3, none⟩ = some (.int .i64 v.dat) := hR8.cell (calVals_get HVk.out 3 (by omega))
                    have f3 := hR8.frozen ((k + 1) * 9 + 3)
                    have t4 : w8.cell? ⟨g9, (k + 1) * 9 + 4, none⟩ = some (.int .i64 v.beg) := hR8.cell (calVals_get HVk.out 4 (by omega))
                    have f4 := hR8.frozen ((k + 1) * 9 + 4)
                    have t5 : w8.cell? ⟨g9, (k + 1) * 9 + 5, none⟩ = some (.int .i64 v.fin) := hR8.cell (calVals_get HVk.out 5 (by omega))
                    have f5 := hR8.frozen ((k + 1) * 9 + 5)
                    have t6 : w8.cell? ⟨g9, (k + 1) * 9 + 6, none⟩ = some (.int .i64 v.pt) := hR8.cell (calVals_get HVk.out 6 (by omega))
                    have f6 := hR8.frozen ((k + 1) * 9 + 6)
                    have t7 : w8.cell? ⟨g9, (k + 1) * 9 + 7, none⟩ = some (.int .i64 v.ak) := hR8.cell (calVals_get HVk.out 7 (by omega))
                    have f7 := hR8.frozen ((k + 1) * 9 + 7)
                    have t8 : w8.cell? ⟨g9, (k + 1) * 9 + 8, none⟩ = some (.int .i64 v.av) := hR8.cell (calVals_get HVk.out 8 (by omega))
                    have f8 := hR8.frozen ((k + 1) * 9 + 8)
                    clear hB8 hR8 hS8

                    go_wp2_with fail
                    go_roundg (go - 1)
                    case measure => omega
                    case rel =>
                      refine HEnd2.out _ (((((((((HB8.out.setCell hB9 _).setCell hB9 _).setCell hB9 _).setCell hB9 _).setCell hB9 _).setCell hB9 _).setCell hB9 _).setCell hB9 _).setCell hB9 _) ?_
                      have h9 := ((((((((HR8.out.set_ ((k + 1) * 9) (.int .i64 s.th)).set_ ((k + 1) * 9 + 1) (.int .i64 s.op)).set_ ((k + 1) * 9 + 2) (.int .i64 s.arg)).set_ ((k + 1) * 9 + 3) (.int .i64 s.dat)).set_ ((k + 1) * 9 + 4) (.int .i64 s.beg)).set_ ((k + 1) * 9 + 5) (.int .i64 s.fin)).set_ ((k + 1) * 9 + 6) (.int .i64 s.pt)).set_ ((k + 1) * 9 + 7) (.int .i64 s.ak)).set_ ((k + 1) * 9 + 8) (.int .i64 s.av)
                      rw [calVals_set9 (shf_lt o v (k + 1) hg3) s, shf_set o v s (k + 1) hg3] at h9
                      rw [insL, HD0.out]
                      exact h9

          · have g1 : (x.op != 124) = true := by simp [c1]
            have HI : Hid (x.isTouch = false) := by show _ = _; simp [Cal.isTouch, c1]
            go_wp2_with fail
            go_roundg (gk - 1)
            case measure => omega
            case rel => exact ⟨j + 1, A7, k7, o, by omega, by go_num, rfl, hB.out.alloc hzr _, hO.out.below ((Below.refl _ _).alloc (Nat.le_refl _) _), by show _ = _; rw [← hD.out, HD2.out, List.filter_cons_of_neg (by rw [HI.out]; simp)], by omega⟩
        · obtain rfl : j = calls.length := by omega
          have hE : o = rtouch calls := by
            have := hD.out
            rw [List.drop_length] at this
            exact this
          have HE := Lib.hid hE
          clear hE hD
          obtain ⟨w5, rfl⟩ : ∃ w5 : World, w5 = wr := ⟨_, rfl⟩
          obtain ⟨g5, rfl⟩ : ∃ g5 : Nat, g5 = gk := ⟨_, rfl⟩
          have HSt := Lib.hid (Sl.of_own hO.out)
          have hz5 := hB.out.size
          have HR5 := Lib.hid (HR1.out.below hB.out hrl1)
          go_wp2_with fail
          go_loopg [130] o.length (fun gk i wq => ∃ j : Nat, j + gk = o.length ∧ i = .int .i64 j ∧ Hid (Below w5.heap.size w5 wq) ∧ Hid (countOk j (o.drop j) = countOk 0 o))
          case atStart => exact ⟨0, by omega, rfl, Below.refl _ _, rfl⟩
          case round =>
            obtain ⟨j, hj, rfl, hBj, hD⟩ := hrel
            have hzr := hBj.out.size
            have HBw : Hid (Below w.heap.size w wr) := HB1.out.trans ((hB.out.trans (hBj.out.mono hz5)).mono (by omega))
            by_cases hlt : j < o.length
            · obtain ⟨x, hx⟩ := at_lt hlt
              have e1 : (j : Int) < o.length := by omega
              have e0 : (0 : Int) ≤ j := by omega
              have hs := (HSt.out.below hBj.out).2 (by omega)
              obtain ⟨b, f, hA, hbl, hcell⟩ := hs
              have v0 : wr.cell? ⟨b, f + j * 9, none⟩ = some (.int .i64 x.th) := by have := hcell (j * 9 + 0) _ (calVals_get hx 0 (by omega)); simpa using this
              have v1 : wr.cell? ⟨b, f + j * 9 + 1, none⟩ = some (.int .i64 x.op) := by have := hcell (j * 9 + 1) _ (calVals_get hx 1 (by omega)); rw [← Nat.add_assoc] at this; exact this
              have v2 : wr.cell? ⟨b, f + j * 9 + 2, none⟩ = some (.int .i64 x.arg) := by have := hcell (j * 9 + 2) _ (calVals_get hx 2 (by omega)); rw [← Nat.add_assoc] at this; exact this
              have v3 : wr.cell? ⟨b, f + j * 9 + 3, none⟩ = some (.int .i64 x.dat) := by have := hcell (j * 9 + 3) _ (calVals_get hx 3 (by omega)); rw [← Nat.add_assoc] at this; exact this
              have v4 : wr.cell? ⟨b, f + j * 9 + 4, none⟩ = some (.int .i64 x.beg) := by have := hcell (j * 9 + 4) _ (calVals_get hx 4 (by omega)); rw [← Nat.add_assoc] at this; exact this
              have v5 : wr.cell? ⟨b, f + j * 9 + 5, none⟩ = some (.int .i64 x.fin) := by have := hcell (j * 9 + 5) _ (calVals_get hx 5 (by omega)); rw [← Nat.add_assoc] at this; exact this
              have v6 : wr.cell? ⟨b, f + j * 9 + 6, none⟩ = some (.int .i64 x.pt) := by have := hcell (j * 9 + 6) _ (calVals_get hx 6 (by omega)); rw [← Nat.add_assoc] at this; exact this
              have v7 : wr.cell? ⟨b, f + j * 9 + 7, none⟩ = some (.int .i64 x.ak) := by have := hcell (j * 9 + 7) _ (calVals_get hx 7 (by omega)); rw [← Nat.add_assoc] at this; exact this
              have v8 : wr.cell? ⟨b, f + j * 9 + 8, none⟩ = some (.int .i64 x.av) := by have := hcell (j * 9 + 8) _ (calVals_get hx 8 (by omega)); rw [← Nat.add_assoc] at this; exact this

              have hD2 : o.drop j = x :: o.drop (j + 1) := drop_cons hx
              have HD2 := Lib.hid hD2
              subst hA
              have hbe : b < wr.heap.size := by omega
              clear hcell hx hD2
              by_cases k1 : x.ak = 2
              · have a1 : (x.ak != 2) = false := by simp [k1]
                by_cases k2 : x.av = (j : Int)
                · have a2 : (x.av != (j : Int)) = false := by simp [k2]
                  have HQ : Hid ((x.ak == 2 && x.av == (j : Int)) = true) := by show _ = _; simp [k1, k2]
                  clear k1 k2
                  go_wp2_with fail
                  go_roundg (gk - 1)
                  case measure => omega
                  case rel => exact ⟨j + 1, by omega, by go_num, hBj.out.alloc hzr _, by show _ = _; rw [← hD.out, HD2.out, countOk, HQ.out]; rfl⟩
                · have a2 : (x.av != (j : Int)) = true := by simp [k2]
                  have HR9 : Hid (countOk 0 o = false) := by show _ = _; rw [← hD.out, HD2.out, countOk]; simp [k2]
                  clear k1 k2
                  go_wp2_with fail
                  go_ret
                  exact ⟨by rw [← HLr.out, ← HE.out, holdsP, HNo.out, HR9.out]; rfl, HBw.out.alloc (by omega) _⟩
              · have a1 : (x.ak != 2) = true := by simp [k1]
                have HR9 : Hid (countOk 0 o = false) := by show _ = _; rw [← hD.out, HD2.out, countOk]; simp [k1]
                clear k1
                go_wp2_with fail
                go_ret
                exact ⟨by rw [← HLr.out, ← HE.out, holdsP, HNo.out, HR9.out]; rfl, HBw.out.alloc (by omega) _⟩
            · obtain rfl : j = o.length := by omega
              have HR9 : Hid (countOk 0 o = true) := by show _ = _; rw [← hD.out, List.drop_length]; rfl
              have hrr := HR5.out.below hBj.out (by omega)
              have r3 : wr.cell? ⟨w.heap.size, 3, none⟩ = some (.slice Aw words.length kw) := hrr.cell rfl
              have hww := HW.out.below HBw.out
              have HP : Hid (holdsP l o words = wordOk words o.length) := by show _ = _; rw [holdsP, HNo.out, HR9.out]; rfl
              clear hrr HR9 hD
              cases words with
              | nil =>
                go_wp2_with fail
                go_ret
                exact ⟨by rw [← HLr.out, ← HE.out, HP.out]; rfl, HBw.out⟩
              | cons v r =>
                obtain ⟨b, f, hA, hbl, hcell⟩ := hww.2 (by simp)
                have v0 : wr.cell? ⟨b, f + 0, none⟩ = some (.int .u64 v) := hcell 0 _ rfl
                rw [Nat.add_zero] at v0
                subst hA
                have p0 : (0 : Int) < ((v :: r).length : Nat) := by simp
                have p1 : 0 < (v :: r).length := by simp
                have p2 : decide ((0 : Int) < ((v :: r).length : Nat)) = true := decide_eq_true p0
                have hbe : b < wr.heap.size := by have := HBw.out.size; omega
                have HW' : Hid (wordOk (v :: r) o.length = (v == (o.length : Int))) := rfl
                have hvr := HWf.out v (by simp)
                obtain ⟨z, hz, hzq⟩ : ∃ z, IntKind.i64.wrap v = z ∧ (z == (o.length : Int)) = (v == (o.length : Int)) := ⟨_, rfl, wrap_len hvr (by omega)⟩
                generalize (v :: r).length = wn at *
                clear hww hcell
                cases hv : (v == (o.length : Int)) with
                | true =>
                  rw [hv] at hzq
                  have HV := Lib.hid hv
                  clear hv
                  go_wp2_with fail
                  go_ret
                  exact ⟨by rw [← HLr.out, ← HE.out, HP.out, HW'.out, HV.out]; rfl, HBw.out⟩
                | false =>
                  rw [hv] at hzq
                  have HV := Lib.hid hv
                  clear hv
                  go_wp2_with fail
                  go_ret
                  exact ⟨by rw [← HLr.out, ← HE.out, HP.out, HW'.out, HV.out]; rfl, HBw.out⟩
end Go.Proofs.Ytjnmlgfkiebkgaa
