/-
  races.Races.
-/
import Derived.Test.YtgbopmgeicokoaaGrp
import Derived.Deep.CutBlock
import Derived.Deep.DeepCutAuto
import Derived.Deep.RegionLaw
import Derived.BigQuiet
namespace Go.Proofs.Ytgbopmgeicokoaa
open Go.RowKit Go.Maps

def RacesR (c : Cfg) (tr : List Acc) (n : Nat) (w : World) (e : Ending) (w' : World) : Prop :=
  Below w.heap.size w w' ∧ ((runErr c tr = 0 ∧ ∃ A k, e = .returned (.tuple #[.slice A (racesV c tr n).length k, .int .i64 0]) ∧ Sl w' w'.heap.size 3 A (racesV c tr n).length (rcVals (racesV c tr n)) ∧ (racesV c tr n).length ≤ k ∧ k ≤ maxLen) ∨
    (runErr c tr ≠ 0 ∧ e = .returned (.tuple #[.slice none 0 0, .int .i64 (runErr c tr)])))
theorem info_race : (Try.prog.info? 164).map (fun i => (i.zero, i.size, i.bytes)) = some (some (.agg #[.int .i64 0, .int .i64 0, .int .i64 0]), 3, 24) := by kernel_rfl
theorem RunAt.cells {w : World} {B n k b o : Nat} {tr : List Acc} (h : RunAt w B (some ⟨b, o, none⟩) n k tr) {j : Nat} {x : Acc} (hx : tr[j]? = some x) : AccAt x b (o + j * 7) w := by
  obtain ⟨b', o', he, _, h1⟩ := h.at_ hx
  injection he with he
  injection he with h2 h3
  subst h2 h3
  exact h1
theorem rc3_one (i j a : Int) : ∀ u ∈ [Value.int .i64 i, .int .i64 j, .int .i64 a], u.oneCell' = true := by intro u hu; simp at hu; rcases hu with rfl | rfl | rfl <;> rfl
theorem ints_one2 {a : Int} : ∀ u ∈ [Value.int .i64 a], u.oneCell' = true := by intro u hu; simp at hu; subst hu; rfl
/-- what is still to come of a search -/
theorem find_hit {α : Type} {l : List α} {p : α → Bool} {q : Nat} {x : α} (h : l.find? p = (l.drop q).find? p) (hx : l[q]? = some x) (hp : p x = true) : l.find? p = some x := by
  rw [h, drop_cons hx, List.find?_cons_of_pos hp]
theorem find_miss {α : Type} {l : List α} {p : α → Bool} {q : Nat} {x : α} (h : l.find? p = (l.drop q).find? p) (hx : l[q]? = some x) (hp : p x = false) : l.find? p = (l.drop (q + 1)).find? p := by
  rw [h, drop_cons hx, List.find?_cons_of_neg (by rw [hp]; decide)]
theorem find_out {α : Type} {l : List α} {p : α → Bool} {q : Nat} (h : l.find? p = (l.drop q).find? p) (hq : q = l.length) : l.find? p = none := by
  rw [h, hq, List.drop_length]
  rfl

set_option maxRecDepth 100000 in
set_option maxHeartbeats 4000000 in
theorem races_any (c : Cfg) (h0 h2 h3 : Value) (A : Option Addr) (n k : Nat) (tr : List Acc) (w : World) (h : RunAt w w.heap.size A n k tr) (hn8 : n * 128 ≤ 140737488355328) (hwf : ∀ a ∈ tr, a.addr ≤ 9223372036854775807) :
    Calls Try.prog 68 #[cfgV c, .agg #[h0, .slice A n k, h2, h3]] w (RacesR c tr n w) := by
  have hlen := h.len
  obtain ⟨w0, hw0, hb0, hz0, HA, HR, HT⟩ := two_boxes c w h0 h2 h3 A n k tr h
  have HW0 := Lib.hid hw0
  have HWf := Lib.hid hwf
  have HLen := Lib.hid hlen
  clear hw0 h hwf hlen
  obtain ⟨i1, hi1, hi1z, hi1s, hi1b⟩ := info_parts info_int'
  obtain ⟨i2, hi2, hi2z, hi2s, hi2b⟩ := info_parts info_race
  obtain ⟨q0, q1, q2, q3, q4, q5, q6⟩ := HA.out w0 (Below.refl _ _)
  obtain ⟨p0, p1, p2, p3⟩ := HR.out w0 (Below.refl _ _)
  have hR0 := HT.out w0 (Below.refl _ _)
  have HR0 := Lib.hid (⟨hR0.trace.up (by omega), hR0.nk⟩ : RunAt w0 w0.heap.size A n k tr)
  clear hR0
  go_enter Try.func68, Try.ntmps68
  go_upto_region 1 with fail
  rw [← HW0.out]
  go_wp2_with fail
  refine (clocks_any c h0 h2 h3 A n k tr _ HR0.out hn8 HWf.out).mono ?_
  rintro e w1 ⟨hb1, hh⟩
  have hz1 := hb1.size
  clear q0 q1 q2 q3 q4 q5 q6 p0 p1 p2 p3
  rcases hh with ⟨he0, A2, k2, rfl, hA2, hk3, hk4⟩ | ⟨hne, rfl⟩
  · have HE := Lib.hid he0
    have HA2 := Lib.hid hA2
    have hokC := (okC_iff c).1 (runErr_ok he0).1
    have HOk := Lib.hid hokC
    unfold maxLen at hk4
    obtain ⟨p0, p1, p2, p3⟩ := HR.out w1 hb1
    have hmm := @run_makeMap Try.prog
    have hwl : w.heap.size + 1 < w1.heap.size := by omega
    clear he0 hA2 hokC
    go_wp2_with fail
    clear hmm
    go_loopg [9, 28] n (fun gk v0 i wr => ∃ (j m ga : Nat) (v : Value), j + gk = n ∧ m ≤ j ∧ i = .int .i64 j ∧ v = v0 ∧ Hid (Gs w1 ga v (racesV c tr j).length (rcVals (racesV c tr j)) c tr m j wr))
    case atStart => exact ⟨0, 0, 0, .slice none 0 0, by omega, Nat.le_refl _, rfl, rfl, Gs.start⟩
    case round =>
      obtain ⟨j, m, ga, v, hj, hmj, rfl, rfl, HG⟩ := hrel
      have hbr := HG.out.bel
      have hzr := hbr.size
      have hgm := HG.out.lt
      clear p0 p1 p2 p3
      by_cases hlt : j < n
      · obtain ⟨y, hy⟩ := at_lt (by rw [HLen.out]; exact hlt : j < tr.length)
        obtain ⟨b, o, rfl, hb, y0, y1, y2, y3, y4, y5, y6⟩ := (HT.out wr (hb1.trans (hbr.mono hz1))).at_ hy
        have hya := HWf.out y (List.mem_of_getElem? hy)
        have hyk : accB c y = true := List.all_eq_true.1 (runErr_ok HE.out).2 y (List.mem_of_getElem? hy)
        have hyb : 0 ≤ y.addr := by simp [accB] at hyk; omega
        have e1 : (j : Int) < n := by omega
        have e0 : (0 : Int) ≤ j := by omega
        have HY := Lib.hid hy
        have HGa : Hid (Gs w1 wr.heap.size v (racesV c tr j).length (rcVals (racesV c tr j)) c tr m j (wr.alloc (.cells #[.int .i64 y.move, .int .i64 y.thread, .int .i64 y.kind, .int .i64 y.addr, .int .u64 y.old, .int .u64 y.new, .int .u64 y.saw] 61))) := HG.out.aim.alloc _
        have HBa : Hid (Blk (wr.alloc (.cells #[.int .i64 y.move, .int .i64 y.thread, .int .i64 y.kind, .int .i64 y.addr, .int .u64 y.old, .int .u64 y.new, .int .u64 y.saw] 61)) wr.heap.size 61 (accL y)) := Blk.new wr 61 (accL y)
        have hrl := racesV_len c tr j
        clear hy hyk
        obtain ⟨p0, p1, p2, p3⟩ := HR.out wr (hb1.trans (hbr.mono hz1))
        go_upto_region 9 with fail
        generalize wr.alloc (.cells #[.int .i64 y.move, .int .i64 y.thread, .int .i64 y.kind, .int .i64 y.addr, .int .u64 y.old, .int .u64 y.new, .int .u64 y.saw] 61) = wa at HGa HBa ⊢
        obtain ⟨q0, q1, q2, q3, q4, q5, q6⟩ := HA.out wa (hb1.trans (HGa.out.bel.mono hz1))
        clear y0 y1 y2 y3 y4 y5 y6 p0 p1 p2 p3
        have y3 : wa.cell? ⟨wr.heap.size, 3, none⟩ = some (.int .i64 y.addr) := HBa.out.cell rfl
        go_wp2_with fail
        refine (plainWord_any c HOk.out y.addr _).mono ?_
        rintro e W2 ⟨rfl, hb2⟩
        have HG2 := Lib.hid (HGa.out.keep hb2)
        have HB2 := Lib.hid (HBa.out.below hb2 HBa.out.lt)
        clear q0 q1 q2 q3 q4 q5 q6 y3 hb2
        cases hp : plainB c y.addr with
        | false =>
          have HP := Lib.hid hp
          clear hp
          go_wp2_with fail
          go_roundg (gk - 1)
          case measure => omega
          case rel => exact ⟨j + 1, m, wr.heap.size, v, by omega, by omega, by go_num, rfl, by rw [racesV_not HY.out HP.out]; exact HG2.out.skip HY.out HP.out⟩
        | true =>
          obtain ⟨wo, rfl⟩ : ∃ wo : World, wo = wr := ⟨_, rfl⟩
          obtain ⟨go, rfl⟩ : ∃ go : Nat, go = gk := ⟨_, rfl⟩
          have HP := Lib.hid hp
          obtain ⟨A4, k4, hlook, hoi, _, _⟩ := HG2.out.look HY.out hp hmj (by omega) HB2.out.lt ⟨by omega, hya⟩
          have hl2 := hlook W2 (Below.refl _ _)
          have hi4 := idxP_len tr y.addr j
          obtain ⟨I, hI⟩ : ∃ I, I = idxP tr j y.addr := ⟨_, rfl⟩
          rw [← hI] at hl2 hoi hi4
          have hf4 := (own_form hoi)
          have HSi := Lib.hid (Sl.of_own hoi)
          have HI := Lib.hid hI
          have hz2 := HG2.out.bel.size
          have hgb := HB2.out.lt
          have y3 : W2.cell? ⟨wo.heap.size, 3, none⟩ = some (.int .i64 y.addr) := HB2.out.cell rfl
          clear hp hlook hoi hI hf4
          go_upto_block 2 with fail
          go_cut [9] from 43 to 81 (fun s9 wc => ∃ v', s9 = v' ∧ Hid (Gs w1 wo.heap.size v' (racesV c tr (j + 1)).length (rcVals (racesV c tr (j + 1))) c tr m j wc) ∧ Hid (Blk wc wo.heap.size 61 (accL y)))
          case first =>
            go_wp2_with fail
            go_loopg [9, 43] I.length (fun gk v0 i w4 => ∃ q : Nat, q + gk = I.length ∧ i = .int .i64 q ∧ v = v0 ∧ Below W2.heap.size W2 w4 ∧ Hid (I.find? (raceC c tr j y) = (I.drop q).find? (raceC c tr j y)))
            case atStart => exact ⟨0, by omega, rfl, rfl, Below.refl _ _, rfl⟩
            case round =>
              obtain ⟨q, hq, rfl, rfl, hb4, HF⟩ := hrel
              obtain ⟨w4, rfl⟩ : ∃ w4 : World, w4 = wr := ⟨_, rfl⟩
              have hz4 := hb4.size
              by_cases hql : q < I.length
              · obtain ⟨ii, hii⟩ := at_lt hql
                have hij : ii < j := idxP_lt (by have := List.mem_of_getElem? hii; rwa [HI.out] at this)
                have hij' : ii < n := by omega
                obtain ⟨x, hx⟩ := at_lt (by rw [HLen.out]; exact hij' : ii < tr.length)
                obtain ⟨b4, o4, rfl, hb4b, hc4⟩ := HSi.out.2 (by omega)
                have c4 : w4.cell? ⟨b4, o4 + q, none⟩ = some (.int .i64 ii) := (hb4.cell hb4b).trans (hc4 q _ (by simp [ints, hii]))
                have HBW := Lib.hid (hb1.trans ((HG2.out.bel.trans (hb4.mono hz2)).mono hz1))
                obtain ⟨x0, x1, x2, x3, x4, x5, x6⟩ := (HT.out w4 HBW.out).cells hx
                obtain ⟨p0, p1, p2, p3⟩ := HR.out w4 HBW.out
                obtain ⟨T, hT, hT16, _⟩ := acc_thread HE.out hx
                have f1 : (q : Int) < I.length := by omega
                have f0 : (0 : Int) ≤ q := by omega
                have f3 : (ii : Int) < n := by omega
                have f2 : (0 : Int) ≤ ii := by omega
                have HX := Lib.hid hx
                have HII := Lib.hid hii
                have HT1 := Lib.hid hT
                have HB5 : Hid (Below W2.heap.size W2 (w4.alloc (.cells #[.int .i64 x.move, .int .i64 x.thread, .int .i64 x.kind, .int .i64 x.addr, .int .u64 x.old, .int .u64 x.new, .int .u64 x.saw] 61))) := hb4.alloc hz4 _
                have HX5 : Hid (Blk (w4.alloc (.cells #[.int .i64 x.move, .int .i64 x.thread, .int .i64 x.kind, .int .i64 x.addr, .int .u64 x.old, .int .u64 x.new, .int .u64 x.saw] 61)) w4.heap.size 61 (accL x)) := Blk.new w4 61 (accL x)
                clear hx hii hT hc4
                go_upto_region 14 with fail
                generalize w4.alloc (.cells #[.int .i64 x.move, .int .i64 x.thread, .int .i64 x.kind, .int .i64 x.addr, .int .u64 x.old, .int .u64 x.new, .int .u64 x.saw] 61) = w5 at HB5 HX5 ⊢
                clear x0 x1 x2 x3 x4 x5 x6 p0 p1 p2 p3 c4
                have hz5 := HB5.out.size
                have HY5 := Lib.hid (HB2.out.below HB5.out hgb)
                have x0 : w5.cell? ⟨w4.heap.size, 0, none⟩ = some (.int .i64 x.move) := HX5.out.cell rfl
                have x1 : w5.cell? ⟨w4.heap.size, 1, none⟩ = some (.int .i64 x.thread) := HX5.out.cell rfl
                have x2 : w5.cell? ⟨w4.heap.size, 2, none⟩ = some (.int .i64 x.kind) := HX5.out.cell rfl
                have x3 : w5.cell? ⟨w4.heap.size, 3, none⟩ = some (.int .i64 x.addr) := HX5.out.cell rfl
                have x4 : w5.cell? ⟨w4.heap.size, 4, none⟩ = some (.int .u64 x.old) := HX5.out.cell rfl
                have x5 : w5.cell? ⟨w4.heap.size, 5, none⟩ = some (.int .u64 x.new) := HX5.out.cell rfl
                have x6 : w5.cell? ⟨w4.heap.size, 6, none⟩ = some (.int .u64 x.saw) := HX5.out.cell rfl
                have y0 : w5.cell? ⟨wo.heap.size, 0, none⟩ = some (.int .i64 y.move) := HY5.out.cell rfl
                have y1 : w5.cell? ⟨wo.heap.size, 1, none⟩ = some (.int .i64 y.thread) := HY5.out.cell rfl
                have y2 : w5.cell? ⟨wo.heap.size, 2, none⟩ = some (.int .i64 y.kind) := HY5.out.cell rfl
                clear y3; have y3 : w5.cell? ⟨wo.heap.size, 3, none⟩ = some (.int .i64 y.addr) := HY5.out.cell rfl
                have y4 : w5.cell? ⟨wo.heap.size, 4, none⟩ = some (.int .u64 y.old) := HY5.out.cell rfl
                have y5 : w5.cell? ⟨wo.heap.size, 5, none⟩ = some (.int .u64 y.new) := HY5.out.cell rfl
                have y6 : w5.cell? ⟨wo.heap.size, 6, none⟩ = some (.int .u64 y.saw) := HY5.out.cell rfl
                go_cut [72] (fun s72 wc => s72 = .bool (raceC c tr j y ii) ∧ Below w5.heap.size w5 wc)
                case first =>
                  have hr := raceC_at (c := c) (tr := tr) (j := j) (y := y) HX.out
                  by_cases ht : x.thread = y.thread
                  · have b1 : (x.thread != y.thread) = false := by simp [ht]
                    have HRc := Lib.hid (show raceC c tr j y ii = false by rw [hr]; simp [ht])
                    clear hr ht
                    go_wp2_with fail
                    go_meet
                    exact ⟨by rw [HRc.out], Below.refl _ _⟩
                  · have b1 : (x.thread != y.thread) = true := by simp [ht]
                    have hr' : raceC c tr j y ii = ((wroteB x || wroteB y) && !aheadB c tr ii j) := by rw [hr]; simp [ht]
                    have HTY := Lib.hid ht
                    clear hr ht
                    go_wp2_with fail
                    refine (wrote_any x _).mono ?_
                    rintro e W6 ⟨he, hb6⟩
                    have hz6 := hb6.size
                    have HBW6 := Lib.hid (HG2.out.bel.trans ((HB5.out.trans (hb6.mono hz5)).mono hz2))
                    have HB6 := Lib.hid (hb1.trans (HBW6.out.mono hz1))
                    cases hwx : wroteB x with
                    | true =>
                      rw [hwx] at he hr'
                      subst he
                      have HRc := Lib.hid (show raceC c tr j y ii = !aheadB c tr ii j by rw [hr']; simp)
                      obtain ⟨p0, p1, p2, p3⟩ := HR.out W6 HB6.out
                      clear hr' hwx x0 x1 x2 x3 x4 x5 x6 y0 y1 y2 y3 y4 y5 y6
                      go_wp2_with fail
                      refine (pahead_any c h0 h2 h3 (some ⟨b, o, none⟩) n k tr _ ⟨(HT.out W6 HB6.out).trace.up (by have := HB6.out.size; omega), (HT.out W6 HB6.out).nk⟩ A2 k2 ((HA2.out.below HBW6.out).up HBW6.out.size) ii j hij' hlt x T HX.out HT1.out hT16).mono ?_
                      rintro e W7 ⟨rfl, hb7⟩
                      go_wp2_with fail
                      go_meet
                      exact ⟨by rw [HRc.out], hb6.trans (hb7.mono hz6)⟩
                    | false =>
                      rw [hwx] at he hr'
                      subst he
                      have hy6 := HY5.out.below hb6 HY5.out.lt
                      clear y0; have y0 : W6.cell? ⟨wo.heap.size, 0, none⟩ = some (.int .i64 y.move) := hy6.cell rfl
                      clear y1; have y1 : W6.cell? ⟨wo.heap.size, 1, none⟩ = some (.int .i64 y.thread) := hy6.cell rfl
                      clear y2; have y2 : W6.cell? ⟨wo.heap.size, 2, none⟩ = some (.int .i64 y.kind) := hy6.cell rfl
                      clear y3; have y3 : W6.cell? ⟨wo.heap.size, 3, none⟩ = some (.int .i64 y.addr) := hy6.cell rfl
                      clear y4; have y4 : W6.cell? ⟨wo.heap.size, 4, none⟩ = some (.int .u64 y.old) := hy6.cell rfl
                      clear y5; have y5 : W6.cell? ⟨wo.heap.size, 5, none⟩ = some (.int .u64 y.new) := hy6.cell rfl
                      clear y6; have y6 : W6.cell? ⟨wo.heap.size, 6, none⟩ = some (.int .u64 y.saw) := hy6.cell rfl
                      clear hwx x0 x1 x2 x3 x4 x5 x6
                      have HB6' := Lib.hid hb6
                      go_wp2_with fail
                      refine (wrote_any y _).mono ?_
                      rintro e W7 ⟨he, hb7⟩
                      have hz7 := hb7.size
                      have HBW7 := Lib.hid (HBW6.out.trans (hb7.mono HBW6.out.size))
                      have HB7 := Lib.hid (hb1.trans (HBW7.out.mono hz1))
                      cases hwy : wroteB y with
                      | true =>
                        rw [hwy] at he hr'
                        subst he
                        have HRc := Lib.hid (show raceC c tr j y ii = !aheadB c tr ii j by rw [hr']; simp)
                        obtain ⟨p0, p1, p2, p3⟩ := HR.out W7 HB7.out
                        clear hr' hwy y0 y1 y2 y3 y4 y5 y6
                        go_wp2_with fail
                        refine (pahead_any c h0 h2 h3 (some ⟨b, o, none⟩) n k tr _ ⟨(HT.out W7 HB7.out).trace.up (by have := HB7.out.size; omega), (HT.out W7 HB7.out).nk⟩ A2 k2 ((HA2.out.below HBW7.out).up HBW7.out.size) ii j hij' hlt x T HX.out HT1.out hT16).mono ?_
                        rintro e W8 ⟨rfl, hb8⟩
                        go_wp2_with fail
                        go_meet
                        exact ⟨by rw [HRc.out], (hb6.trans (hb7.mono hz6)).trans (hb8.mono (by omega))⟩
                      | false =>
                        rw [hwy] at he hr'
                        subst he
                        have HRc := Lib.hid (show raceC c tr j y ii = false by rw [hr']; simp)
                        clear hr' hwy y0 y1 y2 y3 y4 y5 y6
                        go_wp2_with fail
                        go_meet
                        exact ⟨by rw [HRc.out], hb6.trans (hb7.mono hz6)⟩
                case rest =>
                  obtain ⟨rfl, hb6⟩ := hcut
                  obtain ⟨W6, rfl⟩ : ∃ W6 : World, W6 = wc := ⟨_, rfl⟩
                  have HBx := Lib.hid (HB5.out.trans (hb6.mono hz5))
                  have hzx := HBx.out.size
                  clear x0 x1 x2 x3 x4 x5 x6 y0 y1 y2 y3 y4 y5 y6 hb6
                  cases hrc : raceC c tr j y ii with
                  | true =>
                    have HRc := Lib.hid hrc
                    clear hrc
                    have HGx := Lib.hid (HG2.out.keep HBx.out)
                    have HYx := Lib.hid (HB2.out.below HBx.out hgb)
                    have y3 : W6.cell? ⟨wo.heap.size, 3, none⟩ = some (.int .i64 y.addr) := HYx.out.cell rfl
                    have hw1 := HGx.out.lt
                    go_wp2_with (at_builtin; go_must (refine wpList_app _ rfl _ _ 106 rfl (w1.heap.size + 1) 164 i2 (.agg #[.int .i64 0, .int .i64 0, .int .i64 0]) 3 24 Try.underlying106 hi2 hi2z hi2s hi2b rfl (by decide) v (racesV c tr j).length _ rfl (HGx.out.own.alloc _) (W6.heap.size + 1) (some ⟨W6.heap.size, 0, none⟩) 1 1 [.int .i64 ii, .int .i64 j, .int .i64 y.addr] rfl (((Blk.new W6 164 _).sl rfl).up (by simp)) (rc3_one _ _ _) ((racesV c tr j).length + 1) rfl _ rfl _ rfl (by simp only [maxLen]; omega) (by omega) (by rw [World.size_alloc]; omega) ?_; intro A7 k7 w7 hown7 hg7 hat7 hk7 hk8))
                    go_meet
                    have hgg := (World.grownBy_alloc W6 (.cells #[.int .i64 ii, .int .i64 j, .int .i64 y.addr] 164) v.ownBlock).trans hg7
                    refine ⟨_, rfl, ?_, ?_⟩
                    · rw [racesV_one HY.out HP.out (by rw [← HI.out]; exact find_hit HF.out HII.out HRc.out), rcVals_snoc, List.length_append]
                      exact (HGx.out.alloc _).race hg7 hown7 hat7
                    · exact (HYx.out.alloc _).grown hg7 (fun he => by have := (HG.out.own.lt _ he.symm).2; omega)
                  | false =>
                    have HRc := Lib.hid hrc
                    clear hrc
                    go_wp2_with fail
                    go_roundg (gk - 1)
                    case measure => omega
                    case rel => exact ⟨q + 1, by omega, by go_num, rfl, HBx.out, find_miss HF.out HII.out HRc.out⟩
              · obtain rfl : q = I.length := by omega
                have HN := Lib.hid (racesV_none HY.out (by rw [← HI.out]; exact find_out HF.out rfl))
                go_wp2_with fail
                go_meet
                exact ⟨_, rfl, by rw [HN.out]; exact HG2.out.keep hb4, HB2.out.below hb4 hgb⟩
          case rest =>
            obtain ⟨v', rfl, HG3, HB3⟩ := hcut
            obtain ⟨W3, rfl⟩ : ∃ W3 : World, W3 = wc := ⟨_, rfl⟩
            clear hl2 y3
            obtain ⟨A8, k8, hlook8, hown8, hne8, hback8⟩ := (HG3.out.drew).look HY.out HP.out hmj (by omega) HB3.out.lt ⟨by omega, hya⟩
            rw [← HI.out] at hne8
            have HN8 := Lib.hid hne8
            clear hne8
            rw [← HI.out] at hlook8 hown8 hback8
            have l1 := hlook8 W3.drew (Below.refl _ _)
            have l2 := hlook8 ((W3.alloc (.cells #[.int .i64 j] 3)).drew) (((Below.refl _ W3.drew).alloc (Nat.le_refl _) _))
            have y3 : W3.cell? ⟨wo.heap.size, 3, none⟩ = some (.int .i64 y.addr) := HB3.out.cell rfl
            have hg3 := HB3.out.lt
            have HB3d : Hid (Blk W3.drew wo.heap.size 61 (accL y)) := HB3.out
            have hw3 := HG3.out.lt
            have HO8 := Lib.hid hown8
            have HK8 := Lib.hid hback8
            clear hlook8 hown8 hback8
            go_upto_region 17 with fail
            go_region_law (refine step_app _ (by rfl) _ _ 30 (by rfl) (w1.heap.size + 1) 3 i1 (.int .i64 0) 1 8 Try.underlying30 hi1 hi1z hi1s hi1b rfl (by decide) (.slice A8 I.length k8) I.length (ints (toI I)) (by rfl) (HO8.out.alloc _) (W3.heap.size + 1) (some ⟨W3.heap.size, 0, none⟩) 1 1 [.int .i64 j] (by rfl) (((Blk.new W3.drew 3 _).sl rfl).up (by simp)) ints_one2 (I.length + 1) rfl _ rfl _ rfl (by simp only [maxLen]; omega) (by omega) (by simp <;> omega) ?_
                           intro A10 k10 W10 hown10 hg10 hat10 hk10 hk11
                           have d3 : W10.cell? ⟨wo.heap.size, 3, none⟩ = some (.int .i64 y.addr) := ((HB3d.out.alloc (.cells #[.int .i64 j] 3)).grown hg10 HN8.out).cell rfl
                           obtain ⟨W11, hst, hfin⟩ := HK8.out W10 A10 k10 ((World.grownBy_alloc _ _ _).trans hg10) hown10 (hat10.imp id (fun h => ⟨_, h, by simp⟩))
                           have HFin := Lib.hid hfin
                           clear hfin)
            all_goals (
              go_wp2_with fail
              go_roundg (go - 1)
              case measure => omega
              case rel => exact ⟨j + 1, m + 1, wo.heap.size, _, by omega, by omega, by go_num, rfl, HFin⟩)
      · obtain rfl : j = n := by omega
        obtain ⟨A5, k5, rfl, h5, h6⟩ := own_form HG.out.own
        have HO := Lib.hid (Sl.of_own HG.out.own)
        go_wp2_with fail
        go_ret2
        exact ⟨hb0.trans ((hb1.trans (hbr.mono (by omega))).mono (by omega)), Or.inl ⟨HE.out, A5, k5, rfl, HO.out, h5, h6⟩⟩
  · have HNe := Lib.hid hne
    have b1 : (runErr c tr != 0) = true := by simp [hne]
    clear hne
    go_wp2_with fail
    go_ret2
    exact ⟨hb0.trans (hb1.mono (by omega)), Or.inr ⟨HNe.out, rfl⟩⟩
end Go.Proofs.Ytgbopmgeicokoaa
