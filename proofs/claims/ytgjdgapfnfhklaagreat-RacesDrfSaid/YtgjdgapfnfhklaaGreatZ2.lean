/-
races.Races. reclaimlaw27.awake: two fixed runs and their ra
-/
import Derived.Test.YtgjdgapfnfhklaaGreatZ12
import Derived.Deep.CutBlock
import Derived.Deep.DeepCutAuto
import Derived.Deep.RegionLaw
import Derived.BigQuiet
import Derived.Deep.RegionHeld3
set_option linter.unusedSimpArgs false
set_option linter.unusedVariables false
set_option maxRecDepth 100000
set_option maxHeartbeats 4000000
namespace Go.Proofs.YtgjdgapfnfhklaaGreat
open Go.RowKit Go.Maps
def RacesR (c : Cfg) (tr : List Acc) (n : Nat) (w : World) (e : Ending) (w' : World) : Prop :=
 Below w.heap.size w w' /\ ((runErr c tr = 0 /\ ∃ A k, e = .returned (.tuple #[.slice A (racesV c tr n).length k, .int .i64 0]) /\ Sl w' w'.heap.size 3 A (racesV c tr n).length (rcVals (racesV c tr n)) /\ (racesV c tr n).length <= k /\ k <= maxLen) ∨
  (runErr c tr ≠ 0 /\ e = .returned (.tuple #[.slice none 0 0, .int .i64 (runErr c tr)])))
theorem info_race : (Tryz.prog.info? 60).map (fun i => (i.zero, i.size, i.bytes)) = some (some (.agg #[.int .i64 0, .int .i64 0, .int .i64 0]), 3, 24) := by kernel_rfl
theorem RunAt.cells {w : World} {B n k b o : Nat} {tr : List Acc} (h : RunAt w B (some ⟨b, o, none⟩) n k tr) {j : Nat} {x : Acc} (hx : tr[j]? = some x) : AccAt x b (o + j * 7) w := by
 obtain ⟨b', o', he, _, h1⟩ := h.at_ hx
 injection he with he
 injection he with h2 h3
 subst h2 h3
 exact h1
theorem rc3_one (i j a : Int) : ∀ u ∈ [Value.int .i64 i, .int .i64 j, .int .i64 a], u.oneCell' = true := by intro u hu; simp at hu; rcases hu with rfl | rfl | rfl <;> rfl
theorem ints_one2 {a : Int} : ∀ u ∈ [Value.int .i64 a], u.oneCell' = true := by intro u hu; simp at hu; subst hu; rfl
theorem find_hit {α : Type} {l : List α} {p : α -> Bool} {q : Nat} {x : α} (h : l.find? p = (l.drop q).find? p) (hx : l[q]? = some x) (hp : p x = true) : l.find? p = some x := by
 rw [h, drop_cons hx, List.find?_cons_of_pos hp]
theorem find_miss {α : Type} {l : List α} {p : α -> Bool} {q : Nat} {x : α} (h : l.find? p = (l.drop q).find? p) (hx : l[q]? = some x) (hp : p x = false) : l.find? p = (l.drop (q + 1)).find? p := by
 rw [h, drop_cons hx, List.find?_cons_of_neg (by rw [hp]; decide)]
theorem find_out {α : Type} {l : List α} {p : α -> Bool} {q : Nat} (h : l.find? p = (l.drop q).find? p) (hq : q = l.length) : l.find? p = none := by
 rw [h, hq, List.drop_length]
 rfl
theorem races_any (c : Cfg) (h0 h2 h3 : Value) (A : Option Addr) (n k : Nat) (tr : List Acc) (w : World) (h : RunAt w w.heap.size A n k tr) (hn8 : n * 128 <= 140737488355328) (hwf : ∀ a ∈ tr, a.addr <= 9223372036854775807) :
  Calls Tryz.prog 13 #[cfgV c, .agg #[h0, .slice A n k, h2, h3]] w (RacesR c tr n w) := by
 have hlen := h.len
 obtain ⟨w0, hw0, hb0, hz0, HA, HR, HT⟩ := two_boxes c w h0 h2 h3 A n k tr h
 have HW0 := Lh hw0
 have HWf := Lh hwf
 have HLen := Lh hlen
 clear hw0 h hwf hlen
 obtain ⟨i1, hi1, hi1z, hi1s, hi1b⟩ := info_parts info_int'
 obtain ⟨i2, hi2, hi2z, hi2s, hi2b⟩ := info_parts info_race
 obtain ⟨q0, q1, q2, q3, q4, q5, q6⟩ := HA.o w0 (Below.refl _ _)
 obtain ⟨p0, p1, p2, p3⟩ := HR.o w0 (Below.refl _ _)
 have hR0 := HT.o w0 (Below.refl _ _)
 have HR0 := Lh (⟨hR0.trace.up (by omega), hR0.nk⟩ : RunAt w0 w0.heap.size A n k tr)
 clear hR0
 go_enter Tryz.func13, Tryz.ntmps13
 go_upto_region 1 with fail
 rw [<- HW0.o]
 go_wp2_with fail
 refine (clocks_any c h0 h2 h3 A n k tr _ HR0.o hn8 HWf.o).mono ?_
 rintro e w1 ⟨hb1, hh⟩
 have hz1 := hb1.size
 clear q0 q1 q2 q3 q4 q5 q6 p0 p1 p2 p3
 rcases hh with ⟨he0, A2, k2, rfl, hA2, hk3, hk4⟩ | ⟨hne, rfl⟩
 ·have HE := Lh he0
  have HA2 := Lh hA2
  have hokC := (okC_iff c).1 (runErr_ok he0).1
  have HOk := Lh hokC
  unfold maxLen at hk4
  obtain ⟨p0, p1, p2, p3⟩ := HR.o w1 hb1
  have hmm := @run_makeMap Tryz.prog
  have hwl : w.heap.size + 1 < w1.heap.size := by omega
  clear he0 hA2 hokC
  go_wp2_with fail
  clear hmm
  go_loopg [9, 28] n (fun gk v0 i wr => ∃ (j m ga : Nat) (v : Value), j + gk = n /\ m <= j /\ i = .int .i64 j /\ v = v0 /\ Hid (Gs w1 ga v (racesV c tr j).length (rcVals (racesV c tr j)) c tr m j wr))
  case atStart => exact ⟨0, 0, 0, .slice none 0 0, by omega, Nat.le_refl _, rfl, rfl, Gs.start⟩
  case round =>
   obtain ⟨j, m, ga, v, hj, hmj, rfl, rfl, HG⟩ := hrel
   have hbr := HG.o.bel
   have hzr := hbr.size
   have hgm := HG.o.lt
   clear p0 p1 p2 p3
   by_cases hlt : j < n
   ·obtain ⟨y, hy⟩ := at_lt (by rw [HLen.o]; exact hlt : j < tr.length)
    obtain ⟨b, o, rfl, hb, y0, y1, y2, y3, y4, y5, y6⟩ := (HT.o wr (hb1.trans (hbr.mono hz1))).at_ hy
    have hya := HWf.o y (List.mem_of_getElem? hy)
    have hyk : accB c y = true := List.all_eq_true.1 (runErr_ok HE.o).2 y (List.mem_of_getElem? hy)
    have hyb : 0 <= y.addr := by simp [accB] at hyk; omega
    have e1 : (j : Int) < n := by omega
    have e0 : (0 : Int) <= j := by omega
    have HY := Lh hy
    have HGa : Hid (Gs w1 wr.heap.size v (racesV c tr j).length (rcVals (racesV c tr j)) c tr m j (wr.alloc (.cells #[.int .i64 y.move, .int .i64 y.thread, .int .i64 y.kind, .int .i64 y.addr, .int .u64 y.old, .int .u64 y.new, .int .u64 y.saw] 49))) := HG.o.aim.alloc _
    have HBa : Hid (Blk (wr.alloc (.cells #[.int .i64 y.move, .int .i64 y.thread, .int .i64 y.kind, .int .i64 y.addr, .int .u64 y.old, .int .u64 y.new, .int .u64 y.saw] 49)) wr.heap.size 49 (accL y)) := Blk.new wr 49 (accL y)
    have hrl := racesV_len c tr j
    clear hy hyk
    obtain ⟨p0, p1, p2, p3⟩ := HR.o wr (hb1.trans (hbr.mono hz1))
    go_upto_region 9 with fail
    generalize wr.alloc (.cells #[.int .i64 y.move, .int .i64 y.thread, .int .i64 y.kind, .int .i64 y.addr, .int .u64 y.old, .int .u64 y.new, .int .u64 y.saw] 49) = wa at HGa HBa ⊢
    obtain ⟨q0, q1, q2, q3, q4, q5, q6⟩ := HA.o wa (hb1.trans (HGa.o.bel.mono hz1))
    clear y0 y1 y2 y3 y4 y5 y6 p0 p1 p2 p3
    have y3 := HBa.o.cell (i := 3) rfl
    go_wp2_with fail
    refine (plainWord_any c HOk.o y.addr _).mono ?_
    rintro e W2 ⟨rfl, hb2⟩
    have HG2 := Lh (HGa.o.keep hb2)
    have HB2 := Lh (HBa.o.below hb2 HBa.o.lt)
    clear q0 q1 q2 q3 q4 q5 q6 y3 hb2
    cases hp : plainB c y.addr with
    | false =>
     have HP := Lh hp
     clear hp
     go_wp2_with fail
     go_roundg (gk - 1)
     case measure => omega
     case rel => exact ⟨j + 1, m, wr.heap.size, v, by omega, by omega, by go_num, rfl, by rw [racesV_not HY.o HP.o]; exact HG2.o.skip HY.o HP.o⟩
    | true =>
     obtain ⟨wo, rfl⟩ : ∃ wo : World, wo = wr := ⟨_, rfl⟩
     obtain ⟨go, rfl⟩ : ∃ go : Nat, go = gk := ⟨_, rfl⟩
     have HP := Lh hp
     obtain ⟨A4, k4, hlook, hoi, _, _⟩ := HG2.o.look HY.o hp hmj (by omega) HB2.o.lt ⟨by omega, hya⟩
     have hl2 := hlook W2 (Below.refl _ _)
     have hi4 := idxP_len tr y.addr j
     obtain ⟨I, hI⟩ : ∃ I, I = idxP tr j y.addr := ⟨_, rfl⟩
     rw [<- hI] at hl2 hoi hi4
     have hf4 := (own_form hoi)
     have HSi := Lh (Sl.of_own hoi)
     have HI := Lh hI
     have hz2 := HG2.o.bel.size
     have hgb := HB2.o.lt
     have y3 := HB2.o.cell (i := 3) rfl
     clear hp hlook hoi hI hf4
     go_upto_block 2 with fail
     go_cut [9] from 43 to 81 (fun s9 wc => ∃ v', s9 = v' /\ Hid (Gs w1 wo.heap.size v' (racesV c tr (j + 1)).length (rcVals (racesV c tr (j + 1))) c tr m j wc) /\ Hid (Blk wc wo.heap.size 49 (accL y)))
     case first =>
      go_wp2_with fail
      go_loopg [9, 43] I.length (fun gk v0 i w4 => ∃ q : Nat, q + gk = I.length /\ i = .int .i64 q /\ v = v0 /\ Below W2.heap.size W2 w4 /\ Hid (I.find? (raceC c tr j y) = (I.drop q).find? (raceC c tr j y)))
      case atStart => exact ⟨0, by omega, rfl, rfl, Below.refl _ _, rfl⟩
      case round =>
       obtain ⟨q, hq, rfl, rfl, hb4, HF⟩ := hrel
       obtain ⟨w4, rfl⟩ : ∃ w4 : World, w4 = wr := ⟨_, rfl⟩
       have hz4 := hb4.size
       by_cases hql : q < I.length
       ·obtain ⟨ii, hii⟩ := at_lt hql
        have hij : ii < j := idxP_lt (by have := List.mem_of_getElem? hii; rwa [HI.o] at this)
        have hij' : ii < n := by omega
        obtain ⟨x, hx⟩ := at_lt (by rw [HLen.o]; exact hij' : ii < tr.length)
        obtain ⟨b4, o4, rfl, hb4b, hc4⟩ := HSi.o.2 (by omega)
        have c4 : w4.cell? ⟨b4, o4 + q, none⟩ = some (.int .i64 ii) := (hb4.cell hb4b).trans (hc4 q _ (by simp [ints, hii]))
        have HBW := Lh (hb1.trans ((HG2.o.bel.trans (hb4.mono hz2)).mono hz1))
        obtain ⟨x0, x1, x2, x3, x4, x5, x6⟩ := (HT.o w4 HBW.o).cells hx
        obtain ⟨p0, p1, p2, p3⟩ := HR.o w4 HBW.o
        obtain ⟨T, hT, hT16, _⟩ := acc_thread HE.o hx
        have f1 : (q : Int) < I.length := by omega
        have f0 : (0 : Int) <= q := by omega
        have f3 : (ii : Int) < n := by omega
        have f2 : (0 : Int) <= ii := by omega
        have HX := Lh hx
        have HII := Lh hii
        have HT1 := Lh hT
        have HB5 : Hid (Below W2.heap.size W2 (w4.alloc (.cells #[.int .i64 x.move, .int .i64 x.thread, .int .i64 x.kind, .int .i64 x.addr, .int .u64 x.old, .int .u64 x.new, .int .u64 x.saw] 49))) := hb4.alloc hz4 _
        have HX5 : Hid (Blk (w4.alloc (.cells #[.int .i64 x.move, .int .i64 x.thread, .int .i64 x.kind, .int .i64 x.addr, .int .u64 x.old, .int .u64 x.new, .int .u64 x.saw] 49)) w4.heap.size 49 (accL x)) := Blk.new w4 49 (accL x)
        clear hx hii hT hc4
        go_upto_region 14 with fail
        generalize w4.alloc (.cells #[.int .i64 x.move, .int .i64 x.thread, .int .i64 x.kind, .int .i64 x.addr, .int .u64 x.old, .int .u64 x.new, .int .u64 x.saw] 49) = w5 at HB5 HX5 ⊢
        clear x0 x1 x2 x3 x4 x5 x6 p0 p1 p2 p3 c4
        have hz5 := HB5.o.size
        have HY5 := Lh (HB2.o.below HB5.o hgb)
        have x0 := HX5.o.cell (i := 0) rfl
        have x1 := HX5.o.cell (i := 1) rfl
        have x2 := HX5.o.cell (i := 2) rfl
        have x3 := HX5.o.cell (i := 3) rfl
        have x4 := HX5.o.cell (i := 4) rfl
        have x5 := HX5.o.cell (i := 5) rfl
        have x6 := HX5.o.cell (i := 6) rfl
        have y0 := HY5.o.cell (i := 0) rfl
        have y1 := HY5.o.cell (i := 1) rfl
        have y2 := HY5.o.cell (i := 2) rfl
        clear y3; have y3 : w5.cell? ⟨wo.heap.size, 3, none⟩ = some (.int .i64 y.addr) := HY5.o.cell rfl
        have y4 := HY5.o.cell (i := 4) rfl
        have y5 := HY5.o.cell (i := 5) rfl
        have y6 := HY5.o.cell (i := 6) rfl
        go_cut [72] (fun s72 wc => s72 = .bool (raceC c tr j y ii) /\ Below w5.heap.size w5 wc)
        case first =>
         have hr := raceC_at (c := c) (tr := tr) (j := j) (y := y) HX.o
         by_cases ht : x.thread = y.thread
         ·have b1 : (x.thread != y.thread) = false := by simp [ht]
          have HRc := Lh (show raceC c tr j y ii = false by rw [hr]; simp [ht])
          clear hr ht
          go_wp2_with fail
          go_meet
          exact ⟨by rw [HRc.o], Below.refl _ _⟩
         ·have b1 : (x.thread != y.thread) = true := by simp [ht]
          have hr' : raceC c tr j y ii = ((wroteB x || wroteB y) && !aheadB c tr ii j) := by rw [hr]; simp [ht]
          have HTY := Lh ht
          clear hr ht
          go_wp2_with fail
          refine (wrote_any x _).mono ?_
          rintro e W6 ⟨he, hb6⟩
          have hz6 := hb6.size
          have HBW6 := Lh (HG2.o.bel.trans ((HB5.o.trans (hb6.mono hz5)).mono hz2))
          have HB6 := Lh (hb1.trans (HBW6.o.mono hz1))
          cases hwx : wroteB x with
          | true =>
           rw [hwx] at he hr'
           subst he
           have HRc := Lh (show raceC c tr j y ii = !aheadB c tr ii j by rw [hr']; simp)
           obtain ⟨p0, p1, p2, p3⟩ := HR.o W6 HB6.o
           clear hr' hwx x0 x1 x2 x3 x4 x5 x6 y0 y1 y2 y3 y4 y5 y6
           go_wp2_with fail
           refine (pahead_any c h0 h2 h3 (some ⟨b, o, none⟩) n k tr _ ⟨(HT.o W6 HB6.o).trace.up (by have := HB6.o.size; omega), (HT.o W6 HB6.o).nk⟩ A2 k2 ((HA2.o.below HBW6.o).up HBW6.o.size) ii j hij' hlt x T HX.o HT1.o hT16).mono ?_
           rintro e W7 ⟨rfl, hb7⟩
           go_wp2_with fail
           go_meet
           exact ⟨by rw [HRc.o], hb6.trans (hb7.mono hz6)⟩
          | false =>
           rw [hwx] at he hr'
           subst he
           have hy6 := HY5.o.below hb6 HY5.o.lt
           clear y0; have y0 : W6.cell? ⟨wo.heap.size, 0, none⟩ = some (.int .i64 y.move) := hy6.cell rfl
           clear y1; have y1 : W6.cell? ⟨wo.heap.size, 1, none⟩ = some (.int .i64 y.thread) := hy6.cell rfl
           clear y2; have y2 : W6.cell? ⟨wo.heap.size, 2, none⟩ = some (.int .i64 y.kind) := hy6.cell rfl
           clear y3; have y3 : W6.cell? ⟨wo.heap.size, 3, none⟩ = some (.int .i64 y.addr) := hy6.cell rfl
           clear y4; have y4 : W6.cell? ⟨wo.heap.size, 4, none⟩ = some (.int .u64 y.old) := hy6.cell rfl
           clear y5; have y5 : W6.cell? ⟨wo.heap.size, 5, none⟩ = some (.int .u64 y.new) := hy6.cell rfl
           clear y6; have y6 : W6.cell? ⟨wo.heap.size, 6, none⟩ = some (.int .u64 y.saw) := hy6.cell rfl
           clear hwx x0 x1 x2 x3 x4 x5 x6
           have HB6' := Lh hb6
           go_wp2_with fail
           refine (wrote_any y _).mono ?_
           rintro e W7 ⟨he, hb7⟩
           have hz7 := hb7.size
           have HBW7 := Lh (HBW6.o.trans (hb7.mono HBW6.o.size))
           have HB7 := Lh (hb1.trans (HBW7.o.mono hz1))
           cases hwy : wroteB y with
           | true =>
            rw [hwy] at he hr'
            subst he
            have HRc := Lh (show raceC c tr j y ii = !aheadB c tr ii j by rw [hr']; simp)
            obtain ⟨p0, p1, p2, p3⟩ := HR.o W7 HB7.o
            clear hr' hwy y0 y1 y2 y3 y4 y5 y6
            go_wp2_with fail
            refine (pahead_any c h0 h2 h3 (some ⟨b, o, none⟩) n k tr _ ⟨(HT.o W7 HB7.o).trace.up (by have := HB7.o.size; omega), (HT.o W7 HB7.o).nk⟩ A2 k2 ((HA2.o.below HBW7.o).up HBW7.o.size) ii j hij' hlt x T HX.o HT1.o hT16).mono ?_
            rintro e W8 ⟨rfl, hb8⟩
            go_wp2_with fail
            go_meet
            exact ⟨by rw [HRc.o], (hb6.trans (hb7.mono hz6)).trans (hb8.mono (by omega))⟩
           | false =>
            rw [hwy] at he hr'
            subst he
            have HRc := Lh (show raceC c tr j y ii = false by rw [hr']; simp)
            clear hr' hwy y0 y1 y2 y3 y4 y5 y6
            go_wp2_with fail
            go_meet
            exact ⟨by rw [HRc.o], hb6.trans (hb7.mono hz6)⟩
        case rest =>
         obtain ⟨rfl, hb6⟩ := hcut
         obtain ⟨W6, rfl⟩ : ∃ W6 : World, W6 = wc := ⟨_, rfl⟩
         have HBx := Lh (HB5.o.trans (hb6.mono hz5))
         have hzx := HBx.o.size
         clear x0 x1 x2 x3 x4 x5 x6 y0 y1 y2 y3 y4 y5 y6 hb6
         cases hrc : raceC c tr j y ii with
         | true =>
          have HRc := Lh hrc
          clear hrc
          have HGx := Lh (HG2.o.keep HBx.o)
          have HYx := Lh (HB2.o.below HBx.o hgb)
          have y3 := HYx.o.cell (i := 3) rfl
          have hw1 := HGx.o.lt
          go_wp2_with (at_builtin; go_must (refine wpList_app _ rfl _ _ 51 rfl (w1.heap.size + 1) 60 i2 (.agg #[.int .i64 0, .int .i64 0, .int .i64 0]) 3 24 Tryz.underlying51 hi2 hi2z hi2s hi2b rfl (by decide) v (racesV c tr j).length _ rfl (HGx.o.own.alloc _) (W6.heap.size + 1) (some ⟨W6.heap.size, 0, none⟩) 1 1 [.int .i64 ii, .int .i64 j, .int .i64 y.addr] rfl (((Blk.new W6 60 _).sl rfl).up (by simp)) (rc3_one _ _ _) ((racesV c tr j).length + 1) rfl _ rfl _ rfl (by simp only [maxLen]; omega) (by omega) (by rw [World.size_alloc]; omega) ?_; intro A7 k7 w7 hown7 hg7 hat7 hk7 hk8))
          go_meet
          have hgg := (World.grownBy_alloc W6 (.cells #[.int .i64 ii, .int .i64 j, .int .i64 y.addr] 60) v.ownBlock).trans hg7
          refine ⟨_, rfl, ?_, ?_⟩
          ·rw [racesV_one HY.o HP.o (by rw [<- HI.o]; exact find_hit HF.o HII.o HRc.o), rcVals_snoc, List.length_append]
           exact (HGx.o.alloc _).race hg7 hown7 hat7
          ·exact (HYx.o.alloc _).grown hg7 (fun he => by have := (HG.o.own.lt _ he.symm).2; omega)
         | false =>
          have HRc := Lh hrc
          clear hrc
          go_wp2_with fail
          go_roundg (gk - 1)
          case measure => omega
          case rel => exact ⟨q + 1, by omega, by go_num, rfl, HBx.o, find_miss HF.o HII.o HRc.o⟩
       ·obtain rfl : q = I.length := by omega
        have HN := Lh (racesV_none HY.o (by rw [<- HI.o]; exact find_out HF.o rfl))
        go_wp2_with fail
        go_meet
        exact ⟨_, rfl, by rw [HN.o]; exact HG2.o.keep hb4, HB2.o.below hb4 hgb⟩
     case rest =>
      obtain ⟨v', rfl, HG3, HB3⟩ := hcut
      obtain ⟨W3, rfl⟩ : ∃ W3 : World, W3 = wc := ⟨_, rfl⟩
      clear hl2 y3
      obtain ⟨A8, k8, hlook8, hown8, hne8, hback8⟩ := (HG3.o.drew).look HY.o HP.o hmj (by omega) HB3.o.lt ⟨by omega, hya⟩
      rw [<- HI.o] at hne8
      have HN8 := Lh hne8
      clear hne8
      rw [<- HI.o] at hlook8 hown8 hback8
      have l1 := hlook8 W3.drew (Below.refl _ _)
      have l2 := hlook8 ((W3.alloc (.cells #[.int .i64 j] 3)).drew) (((Below.refl _ W3.drew).alloc (Nat.le_refl _) _))
      have y3 := HB3.o.cell (i := 3) rfl
      have hg3 := HB3.o.lt
      have HB3d : Hid (Blk W3.drew wo.heap.size 49 (accL y)) := HB3.o
      have hw3 := HG3.o.lt
      have HO8 := Lh hown8
      have HK8 := Lh hback8
      clear hlook8 hown8 hback8
      go_upto_region 17 with fail
      go_region_law (refine step_app _ (by rfl) _ _ 22 (by rfl) (w1.heap.size + 1) 3 i1 (.int .i64 0) 1 8 Tryz.underlying22 hi1 hi1z hi1s hi1b rfl (by decide) (.slice A8 I.length k8) I.length (ints (toI I)) (by rfl) (HO8.o.alloc _) (W3.heap.size + 1) (some ⟨W3.heap.size, 0, none⟩) 1 1 [.int .i64 j] (by rfl) (((Blk.new W3.drew 3 _).sl rfl).up (by simp)) ints_one2 (I.length + 1) rfl _ rfl _ rfl (by simp only [maxLen]; omega) (by omega) (by simp <;> omega) ?_
                     intro A10 k10 W10 hown10 hg10 hat10 hk10 hk11
                     have d3 := ((HB3d.o.alloc (.cells #[.int .i64 j] 3)).grown hg10 HN8.o).cell (i := 3) rfl
                     obtain ⟨W11, hst, hfin⟩ := HK8.o W10 A10 k10 ((World.grownBy_alloc _ _ _).trans hg10) hown10 (hat10.imp id (fun h => ⟨_, h, by simp⟩))
                     have HFin := Lh hfin
                     clear hfin)
      all_goals (
       go_wp2_with fail
       go_roundg (go - 1)
       case measure => omega
       case rel => exact ⟨j + 1, m + 1, wo.heap.size, _, by omega, by omega, by go_num, rfl, HFin⟩)
   ·obtain rfl : j = n := by omega
    obtain ⟨A5, k5, rfl, h5, h6⟩ := own_form HG.o.own
    have HO := Lh (Sl.of_own HG.o.own)
    go_wp2_with fail
    go_ret2
    exact ⟨hb0.trans ((hb1.trans (hbr.mono (by omega))).mono (by omega)), Or.inl ⟨HE.o, A5, k5, rfl, HO.o, h5, h6⟩⟩
 ·have HNe := Lh hne
  have b1 : (runErr c tr != 0) = true := by simp [hne]
  clear hne
  go_wp2_with fail
  go_ret2
  exact ⟨hb0.trans (hb1.mono (by omega)), Or.inr ⟨HNe.o, rfl⟩⟩
end Go.Proofs.YtgjdgapfnfhklaaGreat
namespace Go.Proofs.YtgjdgapfnfhklaaGreat
open Go.RowKit
def c9 : Cfg := ⟨2, 1, 3, 1, 0, 1, 1⟩
def tr4 : List Acc := [⟨0, 0, 2, 12, 0, 5, 0⟩, ⟨0, 0, 3, 2, 0, 1, 0⟩, ⟨0, 1, 1, 2, 0, 0, 1⟩, ⟨0, 1, 1, 12, 0, 0, 5⟩]
def tr3 : List Acc := [⟨0, 0, 2, 12, 0, 5, 0⟩, ⟨0, 0, 3, 2, 0, 1, 0⟩, ⟨0, 1, 1, 12, 0, 0, 5⟩]
theorem sum9 : sumF c9 10 = 12 := by decide
theorem ok9 : okC c9 = true := by decide
theorem err4 : runErr c9 tr4 = 0 := by decide
theorem err3 : runErr c9 tr3 = 0 := by decide
theorem races4 : racesV c9 tr4 4 = [] := by decide
theorem races3 : racesV c9 tr3 3 = [(0, 2, 12)] := by decide
theorem base9 (W : World) : Calls Tryz.prog 12 #[.agg #[.int .i64 2, .int .i64 1, .int .i64 3, .int .i64 1, .int .i64 0, .int .i64 1, .int .i64 1], .int .i64 11] W (IntR 12 W) := by
 have h := base_any c9 ((okC_iff c9).1 ok9) 10 (by omega) W
 rw [sum9] at h
 exact h
theorem races4_any (g : Nat) (W : World) (h : Blk W g 49 (accVals tr4)) :
  Calls Tryz.prog 13 #[.agg #[.int .i64 2, .int .i64 1, .int .i64 3, .int .i64 1, .int .i64 0, .int .i64 1, .int .i64 1], .agg #[.slice none 0 0, .slice (some ⟨g, 0, none⟩) 4 4, .slice none 0 0, .slice none 0 0]] W
   (fun e w' => ∃ A k, e = .returned (.tuple #[.slice A 0 k, .int .i64 0]) /\ Below W.heap.size W w') :=
 (races_any c9 _ _ _ (some ⟨g, 0, none⟩) 4 4 tr4 W ⟨h.sl rfl, Nat.le_refl _, by simp [maxLen]⟩ (by omega) (by decide)).mono fun e w' hh => by
  obtain ⟨hb, hh⟩ := hh
  rw [races4] at hh
  rcases hh with ⟨_, A, k, he, _⟩ | ⟨hne, _⟩
  ·exact ⟨A, k, he, hb⟩
  ·exact absurd err4 hne
theorem races3_any (g : Nat) (W : World) (h : Blk W g 49 (accVals tr3)) :
  Calls Tryz.prog 13 #[.agg #[.int .i64 2, .int .i64 1, .int .i64 3, .int .i64 1, .int .i64 0, .int .i64 1, .int .i64 1], .agg #[.slice none 0 0, .slice (some ⟨g, 0, none⟩) 3 3, .slice none 0 0, .slice none 0 0]] W
   (fun e w' => ∃ b o k, e = .returned (.tuple #[.slice (some ⟨b, o, none⟩) 1 k, .int .i64 0]) /\ Below W.heap.size W w' /\ w'.cell? ⟨b, o, none⟩ = some (.int .i64 0) /\ w'.cell? ⟨b, o + 1, none⟩ = some (.int .i64 2) /\ w'.cell? ⟨b, o + 2, none⟩ = some (.int .i64 12)) :=
 (races_any c9 _ _ _ (some ⟨g, 0, none⟩) 3 3 tr3 W ⟨h.sl rfl, Nat.le_refl _, by simp [maxLen]⟩ (by omega) (by decide)).mono fun e w' hh => by
  obtain ⟨hb, hh⟩ := hh
  rw [races3] at hh
  rcases hh with ⟨_, A, k, he, hs, _⟩ | ⟨hne, _⟩
  ·obtain ⟨b, o, rfl, _, hc⟩ := hs.2 (by decide)
   exact ⟨b, o, k, he, hb, hc 0 _ rfl, hc 1 _ rfl, hc 2 _ rfl⟩
  ·exact absurd err3 hne
theorem awake_any (w : World) : Calls Tryz.prog 4 #[] w (BoolR true w) := by
 go_enter Tryz.func4, Tryz.ntmps4
 go_upto_region 2 with fail
 have HC : Hid (Blk (w.alloc (.cells #[.int .i64 2, .int .i64 1, .int .i64 3, .int .i64 1, .int .i64 0, .int .i64 1, .int .i64 1] 44)) w.heap.size 44 (cfgL c9)) := Blk.new _ _ _
 have HB : Hid (Below w.heap.size w (w.alloc (.cells #[.int .i64 2, .int .i64 1, .int .i64 3, .int .i64 1, .int .i64 0, .int .i64 1, .int .i64 1] 44))) := (Below.refl _ _).alloc (Nat.le_refl _) _
 generalize w.alloc (.cells #[.int .i64 2, .int .i64 1, .int .i64 3, .int .i64 1, .int .i64 0, .int .i64 1, .int .i64 1] 44) = w1 at HC HB ⊢
 have hgl := HC.o.lt
 have c0 := HC.o.cell (i := 0) rfl
 have c1 := HC.o.cell (i := 1) rfl
 have c2 := HC.o.cell (i := 2) rfl
 have c3 := HC.o.cell (i := 3) rfl
 have c4 := HC.o.cell (i := 4) rfl
 have c5 := HC.o.cell (i := 5) rfl
 have c6 := HC.o.cell (i := 6) rfl
 go_wp2_with fail
 refine (base9 _).mono ?_
 rintro e w2 ⟨rfl, hb2⟩
 clear c0 c1 c2 c3 c4 c5 c6
 have HC2 := Lh (HC.o.below hb2 hgl)
 have HB2 := Lh (HB.o.trans (hb2.mono HB.o.size))
 go_upto_region 4 with fail
 have HT3 : Hid (Blk (w2.alloc (.cells #[.int .i64 0, .int .i64 0, .int .i64 2, .int .i64 12, .int .u64 0, .int .u64 5, .int .u64 0, .int .i64 0, .int .i64 0, .int .i64 3, .int .i64 2, .int .u64 0, .int .u64 1, .int .u64 0, .int .i64 0, .int .i64 1, .int .i64 1, .int .i64 2, .int .u64 0, .int .u64 0, .int .u64 1, .int .i64 0, .int .i64 1, .int .i64 1, .int .i64 12, .int .u64 0, .int .u64 0, .int .u64 5] 49)) w2.heap.size 49 (accVals tr4)) := Blk.new _ _ _
 have HC3 : Hid (Blk (w2.alloc (.cells #[.int .i64 0, .int .i64 0, .int .i64 2, .int .i64 12, .int .u64 0, .int .u64 5, .int .u64 0, .int .i64 0, .int .i64 0, .int .i64 3, .int .i64 2, .int .u64 0, .int .u64 1, .int .u64 0, .int .i64 0, .int .i64 1, .int .i64 1, .int .i64 2, .int .u64 0, .int .u64 0, .int .u64 1, .int .i64 0, .int .i64 1, .int .i64 1, .int .i64 12, .int .u64 0, .int .u64 0, .int .u64 5] 49)) w.heap.size 44 (cfgL c9)) := HC2.o.alloc _
 have HB3 : Hid (Below w.heap.size w (w2.alloc (.cells #[.int .i64 0, .int .i64 0, .int .i64 2, .int .i64 12, .int .u64 0, .int .u64 5, .int .u64 0, .int .i64 0, .int .i64 0, .int .i64 3, .int .i64 2, .int .u64 0, .int .u64 1, .int .u64 0, .int .i64 0, .int .i64 1, .int .i64 1, .int .i64 2, .int .u64 0, .int .u64 0, .int .u64 1, .int .i64 0, .int .i64 1, .int .i64 1, .int .i64 12, .int .u64 0, .int .u64 0, .int .u64 5] 49))) := HB2.o.alloc HB2.o.size _
 generalize w2.alloc (.cells #[.int .i64 0, .int .i64 0, .int .i64 2, .int .i64 12, .int .u64 0, .int .u64 5, .int .u64 0, .int .i64 0, .int .i64 0, .int .i64 3, .int .i64 2, .int .u64 0, .int .u64 1, .int .u64 0, .int .i64 0, .int .i64 1, .int .i64 1, .int .i64 2, .int .u64 0, .int .u64 0, .int .u64 1, .int .i64 0, .int .i64 1, .int .i64 1, .int .i64 12, .int .u64 0, .int .u64 0, .int .u64 5] 49) = w3 at HT3 HC3 HB3 ⊢
 have c0 := HC3.o.cell (i := 0) rfl
 have c1 := HC3.o.cell (i := 1) rfl
 have c2 := HC3.o.cell (i := 2) rfl
 have c3 := HC3.o.cell (i := 3) rfl
 have c4 := HC3.o.cell (i := 4) rfl
 have c5 := HC3.o.cell (i := 5) rfl
 have c6 := HC3.o.cell (i := 6) rfl
 have hgl3 := HC3.o.lt
 have hgt3 := HT3.o.lt
 go_wp2_with fail
 refine (races4_any _ _ HT3.o).mono ?_
 rintro e w4 ⟨A4, k4, rfl, hb4⟩
 clear c0 c1 c2 c3 c4 c5 c6
 have HC4 := Lh (HC3.o.below hb4 hgl3)
 have HT4 := Lh (HT3.o.below hb4 hgt3)
 have HB4 := Lh (HB3.o.trans (hb4.mono HB3.o.size))
 have hgl4 := HC4.o.lt
 have hgt4 := HT4.o.lt
 clear hgl hb2 hgl3 hgt3 hb4
 go_upto_region 5 with fail
 have HS : Hid (∀ W, Below w4.heap.size w4 W -> Below w4.heap.size w4 W /\ W.cell? ⟨w.heap.size, 0, none⟩ = some (.int .i64 2) /\ W.cell? ⟨w.heap.size, 1, none⟩ = some (.int .i64 1) /\ W.cell? ⟨w.heap.size, 2, none⟩ = some (.int .i64 3) /\ W.cell? ⟨w.heap.size, 3, none⟩ = some (.int .i64 1) /\ W.cell? ⟨w.heap.size, 4, none⟩ = some (.int .i64 0) /\ W.cell? ⟨w.heap.size, 5, none⟩ = some (.int .i64 1) /\ W.cell? ⟨w.heap.size, 6, none⟩ = some (.int .i64 1) /\ W.cell? ⟨w2.heap.size, 0, none⟩ = some (.int .i64 0) /\ W.cell? ⟨w2.heap.size, 1, none⟩ = some (.int .i64 0) /\ W.cell? ⟨w2.heap.size, 2, none⟩ = some (.int .i64 2) /\ W.cell? ⟨w2.heap.size, 3, none⟩ = some (.int .i64 12) /\ W.cell? ⟨w2.heap.size, 4, none⟩ = some (.int .u64 0) /\ W.cell? ⟨w2.heap.size, 5, none⟩ = some (.int .u64 5) /\ W.cell? ⟨w2.heap.size, 6, none⟩ = some (.int .u64 0) /\ W.cell? ⟨w2.heap.size, 7, none⟩ = some (.int .i64 0) /\ W.cell? ⟨w2.heap.size, 8, none⟩ = some (.int .i64 0) /\ W.cell? ⟨w2.heap.size, 9, none⟩ = some (.int .i64 3) /\ W.cell? ⟨w2.heap.size, 10, none⟩ = some (.int .i64 2) /\ W.cell? ⟨w2.heap.size, 11, none⟩ = some (.int .u64 0) /\ W.cell? ⟨w2.heap.size, 12, none⟩ = some (.int .u64 1) /\ W.cell? ⟨w2.heap.size, 13, none⟩ = some (.int .u64 0) /\ W.cell? ⟨w2.heap.size, 21, none⟩ = some (.int .i64 0) /\ W.cell? ⟨w2.heap.size, 22, none⟩ = some (.int .i64 1) /\ W.cell? ⟨w2.heap.size, 23, none⟩ = some (.int .i64 1) /\ W.cell? ⟨w2.heap.size, 24, none⟩ = some (.int .i64 12) /\ W.cell? ⟨w2.heap.size, 25, none⟩ = some (.int .u64 0) /\ W.cell? ⟨w2.heap.size, 26, none⟩ = some (.int .u64 0) /\ W.cell? ⟨w2.heap.size, 27, none⟩ = some (.int .u64 5)) := fun W hB => ⟨hB, (HC4.o.below hB hgl4).cell rfl, (HC4.o.below hB hgl4).cell rfl, (HC4.o.below hB hgl4).cell rfl, (HC4.o.below hB hgl4).cell rfl, (HC4.o.below hB hgl4).cell rfl, (HC4.o.below hB hgl4).cell rfl, (HC4.o.below hB hgl4).cell rfl, (HT4.o.below hB hgt4).cell rfl, (HT4.o.below hB hgt4).cell rfl, (HT4.o.below hB hgt4).cell rfl, (HT4.o.below hB hgt4).cell rfl, (HT4.o.below hB hgt4).cell rfl, (HT4.o.below hB hgt4).cell rfl, (HT4.o.below hB hgt4).cell rfl, (HT4.o.below hB hgt4).cell rfl, (HT4.o.below hB hgt4).cell rfl, (HT4.o.below hB hgt4).cell rfl, (HT4.o.below hB hgt4).cell rfl, (HT4.o.below hB hgt4).cell rfl, (HT4.o.below hB hgt4).cell rfl, (HT4.o.below hB hgt4).cell rfl, (HT4.o.below hB hgt4).cell rfl, (HT4.o.below hB hgt4).cell rfl, (HT4.o.below hB hgt4).cell rfl, (HT4.o.below hB hgt4).cell rfl, (HT4.o.below hB hgt4).cell rfl, (HT4.o.below hB hgt4).cell rfl, (HT4.o.below hB hgt4).cell rfl⟩
 have HS4 := Lh (HS.o w4 (Below.refl _ _))
 have HCs : Hid (∀ g W, Blk W g 49 (accVals tr3) -> Calls Tryz.prog 13 #[.agg #[.int .i64 2, .int .i64 1, .int .i64 3, .int .i64 1, .int .i64 0, .int .i64 1, .int .i64 1], .agg #[.slice none 0 0, .slice (some ⟨g, 0, none⟩) 3 3, .slice none 0 0, .slice none 0 0]] W
   (fun e w' => ∃ b o k, e = .returned (.tuple #[.slice (some ⟨b, o, none⟩) 1 k, .int .i64 0]) /\ Below W.heap.size W w' /\ w'.cell? ⟨b, o, none⟩ = some (.int .i64 0) /\ w'.cell? ⟨b, o + 1, none⟩ = some (.int .i64 2) /\ w'.cell? ⟨b, o + 2, none⟩ = some (.int .i64 12))) := races3_any
 have HN4 : Hid (Blk ((w4.alloc (.cells #[.int .i64 0, .int .i64 0, .int .i64 2, .int .i64 12, .int .u64 0, .int .u64 5, .int .u64 0, .int .i64 0, .int .i64 0, .int .i64 3, .int .i64 2, .int .u64 0, .int .u64 1, .int .u64 0, .int .i64 0, .int .i64 1, .int .i64 1, .int .i64 12, .int .u64 0, .int .u64 0, .int .u64 5] 49)).drew) w4.heap.size 49 (accVals tr3)) := Blk.new w4 49 (accVals tr3)
 go_cut [6, 7] (fun s6 s7 wc => ∃ b o k, s6 = .slice (some ⟨b, o, none⟩) 1 k /\ s7 = .int .i64 0 /\ Below w4.heap.size w4 wc /\ wc.cell? ⟨b, o, none⟩ = some (.int .i64 0) /\ wc.cell? ⟨b, o + 1, none⟩ = some (.int .i64 2) /\ wc.cell? ⟨b, o + 2, none⟩ = some (.int .i64 12))
 case first =>
  go_region_held3 (fun W => Below w4.heap.size w4 W /\ W.cell? ⟨w.heap.size, 0, none⟩ = some (.int .i64 2) /\ W.cell? ⟨w.heap.size, 1, none⟩ = some (.int .i64 1) /\ W.cell? ⟨w.heap.size, 2, none⟩ = some (.int .i64 3) /\ W.cell? ⟨w.heap.size, 3, none⟩ = some (.int .i64 1) /\ W.cell? ⟨w.heap.size, 4, none⟩ = some (.int .i64 0) /\ W.cell? ⟨w.heap.size, 5, none⟩ = some (.int .i64 1) /\ W.cell? ⟨w.heap.size, 6, none⟩ = some (.int .i64 1) /\ W.cell? ⟨w2.heap.size, 0, none⟩ = some (.int .i64 0) /\ W.cell? ⟨w2.heap.size, 1, none⟩ = some (.int .i64 0) /\ W.cell? ⟨w2.heap.size, 2, none⟩ = some (.int .i64 2) /\ W.cell? ⟨w2.heap.size, 3, none⟩ = some (.int .i64 12) /\ W.cell? ⟨w2.heap.size, 4, none⟩ = some (.int .u64 0) /\ W.cell? ⟨w2.heap.size, 5, none⟩ = some (.int .u64 5) /\ W.cell? ⟨w2.heap.size, 6, none⟩ = some (.int .u64 0) /\ W.cell? ⟨w2.heap.size, 7, none⟩ = some (.int .i64 0) /\ W.cell? ⟨w2.heap.size, 8, none⟩ = some (.int .i64 0) /\ W.cell? ⟨w2.heap.size, 9, none⟩ = some (.int .i64 3) /\ W.cell? ⟨w2.heap.size, 10, none⟩ = some (.int .i64 2) /\ W.cell? ⟨w2.heap.size, 11, none⟩ = some (.int .u64 0) /\ W.cell? ⟨w2.heap.size, 12, none⟩ = some (.int .u64 1) /\ W.cell? ⟨w2.heap.size, 13, none⟩ = some (.int .u64 0) /\ W.cell? ⟨w2.heap.size, 21, none⟩ = some (.int .i64 0) /\ W.cell? ⟨w2.heap.size, 22, none⟩ = some (.int .i64 1) /\ W.cell? ⟨w2.heap.size, 23, none⟩ = some (.int .i64 1) /\ W.cell? ⟨w2.heap.size, 24, none⟩ = some (.int .i64 12) /\ W.cell? ⟨w2.heap.size, 25, none⟩ = some (.int .u64 0) /\ W.cell? ⟨w2.heap.size, 26, none⟩ = some (.int .u64 0) /\ W.cell? ⟨w2.heap.size, 27, none⟩ = some (.int .u64 5))
   ((refine HS.o _ ?_; go_split_ands; first | assumption | exact (Below.refl _ _).drew | exact ((Below.refl _ _).alloc (Nat.le_refl _) _).drew | exact Below.trans ‹Below w4.heap.size w4 _› (hb9.mono (‹Below w4.heap.size w4 _›).size)))
   ((go_at_call 13; refine (HCs.o _ _ HN4.o).mono ?_; rintro e W9 ⟨b9, o9, k9, rfl, hb9, d0, d1, d2⟩))
  all_goals (go_wp2_with fail; go_meet; go_split_ands)
  all_goals exact ⟨_, _, _, rfl, rfl, by assumption, by assumption, by assumption, by assumption⟩
 case rest =>
  obtain ⟨b, o, k, rfl, rfl, hb5, d0, d1, d2⟩ := hcut
  obtain ⟨w5, rfl⟩ : ∃ w5 : World, w5 = wc := ⟨_, rfl⟩
  have HF := Lh (HB4.o.trans (hb5.mono HB4.o.size))
  clear hb5
  go_wp2_with fail
  refine (num27_any _ _).mono ?_
  rintro e _ ⟨rfl, rfl⟩
  go_wp2_with fail
  refine (num27_any _ _).mono ?_
  rintro e _ ⟨rfl, rfl⟩
  go_wp2_with fail
  go_ret
  exact ⟨rfl, HF.o⟩
end Go.Proofs.YtgjdgapfnfhklaaGreat
