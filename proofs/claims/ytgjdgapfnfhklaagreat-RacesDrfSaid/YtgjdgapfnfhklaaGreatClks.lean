/-
races.clocks: the clocks of a run's accesses.
-/
import Derived.Test.YtgjdgapfnfhklaaGreatZ4
import Derived.Test.YtgjdgapfnfhklaaGreatZ23
import Derived.Deep.DeepCutAuto
import Derived.Deep.RegionLaw
set_option linter.unusedSimpArgs false
set_option linter.unusedVariables false
set_option maxRecDepth 100000
set_option maxHeartbeats 8000000
namespace Go.Proofs.YtgjdgapfnfhklaaGreat
open Go.RowKit Go.Maps
def outVals (c : Cfg) (tr : List Acc) (j : Nat) : List Value := (List.range j).flatMap fun i => ints (clkL 16 (outC c tr i))
theorem outVals_next (c : Cfg) (tr : List Acc) (j : Nat) : outVals c tr (j + 1) = outVals c tr j ++ ints (clkL 16 (outC c tr j)) := by
 unfold outVals
 rw [List.range_succ, List.flatMap_append]
 simp
def thF (s : CS) : Clk := fun q => s.th (q / 16) (q % 16)
structure St (wb : World) (v : Value) (j : Nat) (L : List Value) (x : Acc) (ga : Nat) (F : Clk) (m : Nat) (s : CS) (W : World) : Prop where
 bel : Below wb.heap.size wb W
 th : Blk W wb.heap.size 169 (ints (clkL 256 F))
 mp : WdMap W (wb.heap.size + 1) m s
 own : W.ownsRow (wb.heap.size + 2) 168 16 v j L
 ac : Blk W ga 49 (accL x)
theorem own_ne {W : World} {B e sz n : Nat} {v : Value} {L : List Value} (h : W.ownsRow B e sz v n L) {g : Nat} (hg : g < B) : v.ownBlock = none ∨ v.ownBlock ≠ some g := by
 cases hv : v.ownBlock with
 | none => exact Or.inl rfl
 | some q => exact Or.inr (fun he => by have := (h.lt q hv).1; injection he with he; omega)
theorem St.thr {wb : World} {v : Value} {j : Nat} {L : List Value} {x : Acc} {ga : Nat} {F F' : Clk} {m : Nat} {s : CS} {W W' : World} (h : St wb v j L x ga F m s W) (hg : W.grownBy W' (some wb.heap.size)) (hB : Blk W' wb.heap.size 169 (ints (clkL 256 F'))) (hga : wb.heap.size + 2 <= ga) :
  St wb v j L x ga F' m s W' :=
 ⟨below_gb h.bel hg (Nat.le_refl _) h.bel.size, hB, h.mp.kept hg (by intro he; injection he with he; omega), h.own.kept hg (own_ne h.own (by omega)), h.ac.grown hg (by intro he; injection he with he; omega)⟩
theorem St.keep {wb : World} {v : Value} {j : Nat} {L : List Value} {x : Acc} {ga : Nat} {F : Clk} {m : Nat} {s : CS} {W W' : World} (h : St wb v j L x ga F m s W) (hb : Below W.heap.size W W') : St wb v j L x ga F m s W' :=
 ⟨h.bel.trans (hb.mono h.bel.size), h.th.below hb h.th.lt, h.mp.below hb, h.own.below hb, h.ac.below hb h.ac.lt⟩
theorem St.map {wb : World} {v : Value} {j : Nat} {L : List Value} {x : Acc} {ga : Nat} {F : Clk} {m m' : Nat} {s s' : CS} {W W' : World} (h : St wb v j L x ga F m s W) (hg : W.grownBy W' (some (wb.heap.size + 1))) (hM : WdMap W' (wb.heap.size + 1) m' s') (hga : wb.heap.size + 2 <= ga) :
  St wb v j L x ga F m' s' W' :=
 ⟨below_gb h.bel hg (by omega) h.bel.size, h.th.grown hg (by intro he; injection he with he; omega), hM, h.own.kept hg (own_ne h.own (by omega)), h.ac.grown hg (by intro he; injection he with he; omega)⟩
theorem St.wd {wb : World} {v : Value} {j : Nat} {L : List Value} {x : Acc} {ga : Nat} {F : Clk} {m m' : Nat} {s s' : CS} {W : World} (h : St wb v j L x ga F m s W) (hM : WdMap W (wb.heap.size + 1) m' s') : St wb v j L x ga F m' s' W := ⟨h.bel, h.th, hM, h.own, h.ac⟩
theorem St.fn {wb : World} {v : Value} {j : Nat} {L : List Value} {x : Acc} {ga : Nat} {F F' : Clk} {m : Nat} {s : CS} {W : World} (h : St wb v j L x ga F m s W) (hF : ∀ q, q < 256 -> F q = F' q) : St wb v j L x ga F' m s W := ⟨h.bel, by rw [<- clkL_congr hF]; exact h.th, h.mp, h.own, h.ac⟩
theorem St.drew {wb : World} {v : Value} {j : Nat} {L : List Value} {x : Acc} {ga : Nat} {F : Clk} {m : Nat} {s : CS} {W : World} (h : St wb v j L x ga F m s W) : St wb v j L x ga F m s W.drew := h.keep (Below.refl _ _).drew
def thF1 (s : CS) (T : Nat) : Clk := fun q => if q = T * 16 + T then s.th T T + 1 else thF s q
theorem thF_bump {c : Cfg} {s : CS} {x : Acc} {T : Nat} (hT16 : T < 16) (hT : x.thread = T) (hm : mineC c s x = bump (s.th T) T) (q : Nat) : thF1 s T q = thF (stepC c s x) q := by
 have hTn : x.thread.toNat = T := by omega
 unfold thF1 thF stepC
 dsimp only
 rw [hTn, hm]
 by_cases hq : q / 16 = T
 ·rw [if_pos hq]
  unfold bump
  by_cases hr : q % 16 = T
  ·rw [if_pos hr, if_pos (by omega), hr]
  ·rw [if_neg hr, if_neg (by omega), hq]
 ·rw [if_neg hq, if_neg (by omega)]
theorem mine_plain {c : Cfg} {s : CS} {x : Acc} {T : Nat} (hT : x.thread = T) (hp : plainB c x.addr = true) : mineC c s x = bump (s.th T) T := by
 have hTn : x.thread.toNat = T := by omega
 unfold mineC
 rw [if_pos hp, hTn]
theorem mine_store {c : Cfg} {s : CS} {x : Acc} {T : Nat} (hT : x.thread = T) (h2 : x.kind = 2) : mineC c s x = bump (s.th T) T := by
 have hTn : x.thread.toNat = T := by omega
 unfold mineC
 rw [if_pos h2, hTn]
 split <;> rfl
theorem mine_read {c : Cfg} {s : CS} {x : Acc} {T : Nat} {n : Int} (hT : x.thread = T) (hp : plainB c x.addr = false) (h2 : ¬ x.kind = 2) (hb : Bnd n s) : mineC c s x = maxC (bump (s.th T) T) (wdF s x.addr) := by
 have hTn : x.thread.toNat = T := by omega
 unfold mineC
 rw [if_neg (by rw [hp]; decide), if_neg h2, hTn]
 unfold wdF
 cases hg : s.wd x.addr with
 | some g => rfl
 | none =>
  funext k
  have := hb.1 T k
  show bump (s.th T) T k = if bump (s.th T) T k < 0 then 0 else bump (s.th T) T k
  rw [if_neg]
  unfold bump
  split <;> omega
theorem thF_raise {c : Cfg} {s : CS} {x : Acc} {T : Nat} (hT16 : T < 16) (hT : x.thread = T) (hm : mineC c s x = maxC (bump (s.th T) T) (wdF s x.addr)) (q : Nat) : upToP (T * 16) 16 (thF1 s T) (wdF s x.addr) q = thF (stepC c s x) q := by
 have hTn : x.thread.toNat = T := by omega
 have hb : ∀ q, q / 16 = T -> thF1 s T q = bump (s.th T) T (q % 16) := by
  intro q hq
  unfold thF1 thF bump
  by_cases hr : q % 16 = T
  ·rw [if_pos hr, if_pos (by omega), hr]
  ·rw [if_neg hr, if_neg (by omega), hq]
 show _ = (stepC c s x).th (q / 16) (q % 16)
 unfold stepC
 dsimp only
 rw [hTn, hm]
 unfold upToP
 by_cases hq : q / 16 = T
 ·rw [if_pos hq, if_pos (by omega), hb q hq, show q - T * 16 = q % 16 by omega]
  rfl
 ·rw [if_neg hq, if_neg (by omega)]
  unfold thF1
  rw [if_neg (by omega)]
  rfl
theorem thF_range {W : World} {g T : Nat} {t : TypeId} {c : Cfg} {s : CS} {x : Acc} (hT : x.thread = T) (hT16 : T < 16) (h : Blk W g t (ints (clkL 256 (thF (stepC c s x))))) : W.rangeAt g (T * 16) (ints (clkL 16 (mineC c s x))) := by
 intro j u hu
 have hj : j < 16 := by
  have := (List.getElem?_eq_some_iff.1 hu).1
  simpa [ints, clkL] using this
 rw [clkV_get hj] at hu
 injection hu with hu
 subst hu
 refine h.cell ?_
 rw [clkV_get (by omega)]
 have hTn : x.thread.toNat = T := by omega
 unfold thF stepC
 dsimp only
 rw [hTn, show (T * 16 + j) / 16 = T by omega, show (T * 16 + j) % 16 = j by omega, if_pos rfl]
theorem own_ne' {W : World} {B e sz n : Nat} {v : Value} {L : List Value} (h : W.ownsRow B e sz v n L) {g : Nat} (hg : g < B) : some g ≠ v.ownBlock := by
 intro he
 have := (h.lt g he.symm).1
 omega
theorem same_no {c : Cfg} {x : Acc} (h : wroteB x = false) : ¬ (plainB c x.addr = false /\ wroteB x = true) := fun hh => by rw [h] at hh; cases hh.2
def ClocksP (c : Cfg) (tr : List Acc) (n : Nat) (w : World) (e : Ending) (w' : World) : Prop :=
 Below w.heap.size w w' /\ ((runErr c tr = 0 /\ ∃ A k, e = .returned (.tuple #[.slice A n k, .int .i64 0]) /\ Sl w' w'.heap.size 16 A n (outVals c tr n) /\ n <= k /\ k <= maxLen) ∨ (runErr c tr ≠ 0 /\ e = .returned (.tuple #[.slice none 0 0, .int .i64 (runErr c tr)])))
theorem ClocksP.no {c : Cfg} {tr : List Acc} {n : Nat} {w w' : World} {e : Int} (hb : Below w.heap.size w w') (h : runErr c tr = e) (h0 : e ≠ 0) : ClocksP c tr n w (.returned (.tuple #[.slice none 0 0, .int .i64 e])) w' := by
 subst h
 exact ⟨hb, Or.inr ⟨h0, rfl⟩⟩
theorem zero_threads : ∃ Z : Array Value, Z = (ints (clkL 256 (thF CS.zero))).toArray /\ ∀ w : World, (zeroValue 169).run Tryz.prog w = .ok (.agg Z) w := by
 refine ⟨_, rfl, fun w => ?_⟩
 have h : (Tryz.prog.info? 169).map (fun i => (i.zero, i.size)) = some (some (.agg (ints (clkL 256 (thF CS.zero))).toArray), 256) := by kernel_rfl
 exact (zero_of_info h).1 w
theorem clocks_any (c : Cfg) (h0 h2 h3 : Value) (A : Option Addr) (n k : Nat) (tr : List Acc) (w : World) (h : RunAt w w.heap.size A n k tr) (hn8 : n * 128 <= 140737488355328) (hwf : ∀ a ∈ tr, a.addr <= 9223372036854775807) :
  Calls Tryz.prog 36 #[cfgV c, .agg #[h0, .slice A n k, h2, h3]] w (ClocksP c tr n w) := by
 have hlen := h.len
 have hk1 := h.nk.1
 have hk2 := h.nk.2
 unfold maxLen at hk2
 have hmm := @run_makeMap Tryz.prog
 have HWf := Lh hwf
 clear hwf
 obtain ⟨i1, hi1, hi1z, hi1s, hi1b⟩ := info_parts info_clock
 obtain ⟨Z, hZ, hzv⟩ := zero_threads
 obtain ⟨w0, hw0, hb0, hz0, HA, HR, HT⟩ := two_boxes c w h0 h2 h3 A n k tr h
 have HW0 := Lh hw0
 have HLen := Lh hlen
 have HZ := Lh hZ
 have HZV := Lh hzv
 clear hw0 h hlen hZ hzv
 obtain ⟨q0, q1, q2, q3, q4, q5, q6⟩ := HA.o w0 (Below.refl _ _)
 go_enter Tryz.func36, Tryz.ntmps36
 go_upto_region 1 with fail
 rw [<- HW0.o]
 go_wp2_with fail
 refine (check_any c _).mono ?_
 rintro e w1 ⟨rfl, hb1⟩
 have hz1 := hb1.size
 clear q0 q1 q2 q3 q4 q5 q6
 cases hok : okC c with
 | false =>
  have HE := Lh (runErr_cfg hok tr)
  clear hok
  go_wp2_with fail
  go_ret2
  exact ClocksP.no (hb0.trans (hb1.mono (by omega))) HE.o (by decide)
 | true =>
  have HOK := Lh hok
  clear hok
  have HP1 := Lh (HR.o w1 hb1)
  obtain ⟨p0, p1, p2, p3⟩ := HP1.o
  go_wp2_with fail
  go_loopg [23] n (fun gk i wr => ∃ j : Nat, j + gk = n /\ i = .int .i64 j /\ Below w0.heap.size w0 wr /\ Hid ((tr.take j).all (accB c) = true))
  case atStart => exact ⟨0, by omega, rfl, hb1, rfl⟩
  case round =>
   clear p0 p1 p2 p3
   obtain ⟨j, hj, rfl, hbr, HJ⟩ := hrel
   obtain ⟨q0, q1, q2, q3, q4, q5, q6⟩ := HA.o wr hbr
   have hzr := hbr.size
   have hwl : w.heap.size < wr.heap.size := by omega
   by_cases hlt : j < n
   ·obtain ⟨x, hx⟩ := at_lt (by rw [HLen.o]; exact hlt : j < tr.length)
    obtain ⟨b, o, rfl, hb, x0, x1, x2, x3, x4, x5, x6⟩ := (HT.o wr hbr).at_ hx
    have HX := Lh hx
    have e1 : (j : Int) < n := by omega
    have e0 : (0 : Int) <= j := by omega
    clear hx
    rcases accB_cases c x with ⟨t1, ha⟩ | ⟨t1, t2, ha⟩ | ⟨t1, t2, t3, ha⟩ | ⟨t1, t2, t3, t4, ha⟩ | ⟨t1, t2, t3, t4, t5, ha⟩ | ⟨t1, t2, t3, t4, t5, ha⟩
    case inr.inr.inr.inr.inr =>
     have HN := Lh (all_next HJ.o HX.o ha)
     clear ha
     go_wp2_with fail
     go_roundg (gk - 1)
     case measure => omega
     case rel => exact ⟨j + 1, by omega, by go_num, hbr.alloc hzr _, HN⟩
    all_goals (
     have HE := Lh (runErr_acc HOK.o HX.o ha)
     clear ha
     go_wp2_with fail
     go_ret2
     exact ClocksP.no (hb0.trans ((hbr.alloc hzr _).mono (by omega))) HE.o (by decide))
   ·obtain rfl : n = j := by omega
    have HE := Lh (runErr_none HOK.o (by rw [HLen.o]; exact HJ.o))
    have hzv := HZV.o wr
    obtain ⟨p0, p1, p2, p3⟩ := HR.o wr hbr
    have hwl1 : w.heap.size + 1 < wr.heap.size := by omega
    clear q0 q1 q2 q3 q4 q5 q6
    go_wp2_with fail
    obtain ⟨wb, hwb⟩ : ∃ wb : World, wb = wr := ⟨_, rfl⟩
    subst hwb
    clear hzv
    go_loopg [11, 57] n (fun gk v0 i wr => ∃ (j : Nat) (v : Value), j + gk = n /\ i = .int .i64 j /\ v = v0 /\ Below wb.heap.size wb wr /\ Hid (Blk wr wb.heap.size 169 (ints (clkL 256 (thF (csAt c tr j))))) /\ Hid (WdMap wr (wb.heap.size + 1) j (csAt c tr j)) /\ Hid (wr.ownsRow (wb.heap.size + 2) 168 16 v j (outVals c tr j)))
    case atStart =>
     refine ⟨0, .slice none 0 0, by omega, rfl, rfl, ((Below.refl _ _).alloc (Nat.le_refl _) _).alloc (by simp) _, ?_, ?_, World.ownsRow_nil _ _ _ _⟩
     ·rw [HZ.o]
      exact (Blk.new wb 169 _).alloc _
     ·have := wdMap_made (wb.alloc (.cells Z 169))
      rw [World.size_alloc] at this
      exact this
    case round =>
     obtain ⟨j, v, hj2, rfl, rfl, hbx, HTh, HMp, HOw⟩ := hrel
     have hzx := hbx.size
     have hgm := HMp.o.lt
     by_cases hlt2 : j < n
     ·obtain ⟨x, hx⟩ := at_lt (by rw [HLen.o]; exact hlt2 : j < tr.length)
      obtain ⟨b, o, rfl, hb, x0, x1, x2, x3, x4, x5, x6⟩ := (HT.o wr (hbr.trans (hbx.mono hzr))).at_ hx
      have hax : accB c x = true := List.all_eq_true.1 (by have := HJ.o; rwa [List.take_of_length_le (by rw [HLen.o]; exact Nat.le_refl _)] at this) x (List.mem_of_getElem? hx)
      have hth : 0 <= x.thread /\ x.thread < 16 /\ 1 <= x.kind /\ x.kind <= 3 /\ 0 <= x.addr := by
       have := ((okC_iff c).1 HOK.o).t2
       simp [accB] at hax
       omega
      obtain ⟨T, hT⟩ : ∃ T : Nat, x.thread = T := ⟨x.thread.toNat, by omega⟩
      have hT16 : T < 16 := by omega
      have hxa := HWf.o x (List.mem_of_getElem? hx)
      rw [hT] at x1
      have hbd := bnd_at c tr j (by rw [HLen.o]; omega)
      have hbT := hbd.1 T T
      have hw1 : IntKind.i64.wrap ((csAt c tr j).th T T + 1) = (csAt c tr j).th T T + 1 := IntWalk.i64_in _ (by omega)
      have hTT : thF (csAt c tr j) (T * 16 + T) = (csAt c tr j).th T T := by
       unfold thF
       rw [show (T * 16 + T) / 16 = T by omega, show (T * 16 + T) % 16 = T by omega]
      have c1 : wr.cell? ⟨wb.heap.size, T * 16 + T, none⟩ = some (.int .i64 ((csAt c tr j).th T T)) := HTh.o.cell (by rw [clkV_get (by omega), hTT])
      have cf := HTh.o.frozen (T * 16 + T)
      have hgt := HTh.o.lt
      have HX := Lh hx
      have HT1 := Lh hT
      have HTT := Lh hTT
      have HBd := Lh hbd
      have HSt : Hid (St wb v j (outVals c tr j) x wr.heap.size (thF (csAt c tr j)) j (csAt c tr j) (wr.alloc (.cells #[.int .i64 x.move, .int .i64 T, .int .i64 x.kind, .int .i64 x.addr, .int .u64 x.old, .int .u64 x.new, .int .u64 x.saw] 49))) := by
       rw [<- hT]
       exact ⟨hbx.alloc hzx _, HTh.o.alloc _, HMp.o.below ((Below.refl _ _).alloc (Nat.le_refl _) _), HOw.o.alloc _, Blk.new _ _ _⟩
      have e1 : (j : Int) < n := by omega
      have e0 : (0 : Int) <= j := by omega
      have f1 : (T : Int) < 16 := by omega
      have f0 : (0 : Int) <= T := by omega
      clear hx hT hbd hTT hax hbT
      go_upto_region 17 with fail
      generalize wr.alloc (.cells #[.int .i64 x.move, .int .i64 T, .int .i64 x.kind, .int .i64 x.addr, .int .u64 x.old, .int .u64 x.new, .int .u64 x.saw] 49) = wa at HSt ⊢
      clear c1 cf
      have c1 : wa.cell? ⟨wb.heap.size, T * 16 + T, none⟩ = some (.int .i64 ((csAt c tr j).th T T)) := HSt.o.th.cell (by rw [clkV_get (by omega), HTT.o])
      have cf := HSt.o.th.frozen (T * 16 + T)
      have y1 : wa.cell? ⟨wr.heap.size, 1, none⟩ = some (.int .i64 T) := by rw [<- HT1.o]; exact HSt.o.ac.cell rfl
      go_cut [] (fun wc => Hid (St wb v j (outVals c tr j) x wr.heap.size (thF1 (csAt c tr j) T) j (csAt c tr j) wc))
      case first =>
       go_region
       go_wp2_with fail
       go_meet
       refine (HSt.o.thr (gb_drew (gb_setCell (World.grownBy.refl _ _) _ _)) ?_ (by omega))
       have h5 := HSt.o.th.set_ (T * 16 + T) (.int .i64 ((csAt c tr j).th T T + 1))
       rw [clkL_set] at h5
       exact h5
      case rest =>
       have HS1 := hcut
       clear hcut c1 cf y1
       obtain ⟨W1, rfl⟩ : ∃ W1 : World, W1 = wc := ⟨_, rfl⟩
       have hokC := (okC_iff c).1 HOK.o
       have HC1 := Lh (HA.o W1 (hbr.trans (HS1.o.bel.mono hzr)))
       obtain ⟨q0, q1, q2, q3, q4, q5, q6⟩ := HC1.o
       have y3 := HS1.o.ac.cell (i := 3) rfl
       go_wp2_with fail
       refine (plainWord_any c hokC x.addr _).mono ?_
       rintro e W2 ⟨rfl, hb2⟩
       clear q0 q1 q2 q3 q4 q5 q6 y3 hokC
       have HS2 := Lh (HS1.o.keep hb2)
       clear hb2
       go_upto_if 77 with fail
       go_cut [] (fun wc => Hid (St wb v j (outVals c tr j) x wr.heap.size (thF (stepC c (csAt c tr j) x)) (j + 1) (stepC c (csAt c tr j) x) wc))
       case first =>
        cases hp : plainB c x.addr with
        | true =>
         have HP := Lh hp
         clear hp
         go_wp2_with fail
         go_meet
         exact (HS2.o.fn (fun q _ => thF_bump hT16 HT1.o (mine_plain HT1.o HP.o) q)).wd ((HS2.o.mp.mono (Nat.le_succ _)).same (fun hh => by rw [HP.o] at hh; cases hh.1))
        | false =>
         have HP := Lh hp
         clear hp
         by_cases hkk : x.kind = 2
         ·have b2 : (x.kind != 2) = false := by simp [hkk]
          have HS4 := Lh (HS2.o.fn (F' := thF (stepC c (csAt c tr j) x)) (fun q _ => thF_bump hT16 HT1.o (mine_store HT1.o hkk) q))
          have HWr := Lh (show wroteB x = true by unfold wroteB; simp [hkk])
          have y0 := HS2.o.ac.cell (i := 0) rfl
          have y1 := HS2.o.ac.cell (i := 1) rfl
          have y2 := HS2.o.ac.cell (i := 2) rfl
          have y3 := HS2.o.ac.cell (i := 3) rfl
          have y4 := HS2.o.ac.cell (i := 4) rfl
          have y5 := HS2.o.ac.cell (i := 5) rfl
          have y6 := HS2.o.ac.cell (i := 6) rfl
          clear hkk
          go_wp2_with fail
          refine (wrote_any x _).mono ?_
          rintro e W3 ⟨he, hb3⟩
          rw [HWr.o] at he
          subst he
          have HS5 := Lh (HS4.o.keep hb3)
          clear y0 y1 y2 y3 y4 y5 y6 hb3
          have y3 := HS5.o.ac.cell (i := 3) rfl
          have hrg := thF_range HT1.o hT16 HS5.o.th
          obtain ⟨M, hM⟩ : ∃ M, M = mineC c (csAt c tr j) x := ⟨_, rfl⟩
          rw [<- hM] at hrg
          have HMM := Lh hM
          clear hM
          have m0 : W3.cell? ⟨wb.heap.size, T * 16, none⟩ = some (.int .i64 (M 0)) := hrg 0 _ (clkV_get (by omega))
          have m1 : W3.cell? ⟨wb.heap.size, T * 16 + 1, none⟩ = some (.int .i64 (M 1)) := hrg 1 _ (clkV_get (by omega))
          have m2 : W3.cell? ⟨wb.heap.size, T * 16 + 2, none⟩ = some (.int .i64 (M 2)) := hrg 2 _ (clkV_get (by omega))
          have m3 : W3.cell? ⟨wb.heap.size, T * 16 + 3, none⟩ = some (.int .i64 (M 3)) := hrg 3 _ (clkV_get (by omega))
          have m4 : W3.cell? ⟨wb.heap.size, T * 16 + 4, none⟩ = some (.int .i64 (M 4)) := hrg 4 _ (clkV_get (by omega))
          have m5 : W3.cell? ⟨wb.heap.size, T * 16 + 5, none⟩ = some (.int .i64 (M 5)) := hrg 5 _ (clkV_get (by omega))
          have m6 : W3.cell? ⟨wb.heap.size, T * 16 + 6, none⟩ = some (.int .i64 (M 6)) := hrg 6 _ (clkV_get (by omega))
          have m7 : W3.cell? ⟨wb.heap.size, T * 16 + 7, none⟩ = some (.int .i64 (M 7)) := hrg 7 _ (clkV_get (by omega))
          have m8 : W3.cell? ⟨wb.heap.size, T * 16 + 8, none⟩ = some (.int .i64 (M 8)) := hrg 8 _ (clkV_get (by omega))
          have m9 : W3.cell? ⟨wb.heap.size, T * 16 + 9, none⟩ = some (.int .i64 (M 9)) := hrg 9 _ (clkV_get (by omega))
          have m10 : W3.cell? ⟨wb.heap.size, T * 16 + 10, none⟩ = some (.int .i64 (M 10)) := hrg 10 _ (clkV_get (by omega))
          have m11 : W3.cell? ⟨wb.heap.size, T * 16 + 11, none⟩ = some (.int .i64 (M 11)) := hrg 11 _ (clkV_get (by omega))
          have m12 : W3.cell? ⟨wb.heap.size, T * 16 + 12, none⟩ = some (.int .i64 (M 12)) := hrg 12 _ (clkV_get (by omega))
          have m13 : W3.cell? ⟨wb.heap.size, T * 16 + 13, none⟩ = some (.int .i64 (M 13)) := hrg 13 _ (clkV_get (by omega))
          have m14 : W3.cell? ⟨wb.heap.size, T * 16 + 14, none⟩ = some (.int .i64 (M 14)) := hrg 14 _ (clkV_get (by omega))
          have m15 : W3.cell? ⟨wb.heap.size, T * 16 + 15, none⟩ = some (.int .i64 (M 15)) := hrg 15 _ (clkV_get (by omega))
          clear hrg
          obtain ⟨W9, hst, hM9, hg9⟩ := wd_store (HS5.o.drew).mp (by simp only [maxLen]; omega) x (by omega) HP.o HWr.o M HMM.o
          have HM9 := Lh hM9
          have HG9 := Lh hg9
          clear hM9 hg9
          go_upto_region 22 with fail
          go_region
          go_wp2_with fail
          go_meet
          exact (HS5.o.drew).map HG9.o HM9.o (by omega)
         ·have b2 : (x.kind != 2) = true := by simp [hkk]
          have HKK := Lh hkk
          have y2 := HS2.o.ac.cell (i := 2) rfl
          have y3 := HS2.o.ac.cell (i := 3) rfl
          go_wp2_with (at_lookup; go_must (refine wpList_wd rfl _ _ rfl (wb.heap.size + 1) j (csAt c tr j) rfl HS2.o.mp x.addr (by omega) rfl ?_))
          refine (praise_any wb.heap.size (T * 16) 256 169 (thF1 (csAt c tr j) T) (wdF (csAt c tr j) x.addr) _ HS2.o.th (by omega)).mono ?_
          rintro e W3 ⟨rfl, hg3, hB3⟩
          have HS4 := Lh ((HS2.o.thr hg3 hB3 (by omega)).fn (F' := thF (stepC c (csAt c tr j) x)) (fun q _ => thF_raise hT16 HT1.o (mine_read HT1.o HP.o HKK.o HBd.o) q))
          clear y2 y3 hg3 hB3 hkk b2
          have y0 := HS4.o.ac.cell (i := 0) rfl
          have y1 := HS4.o.ac.cell (i := 1) rfl
          have y2 := HS4.o.ac.cell (i := 2) rfl
          have y3 := HS4.o.ac.cell (i := 3) rfl
          have y4 := HS4.o.ac.cell (i := 4) rfl
          have y5 := HS4.o.ac.cell (i := 5) rfl
          have y6 := HS4.o.ac.cell (i := 6) rfl
          go_wp2_with fail
          refine (wrote_any x _).mono ?_
          rintro e W4 ⟨rfl, hb4⟩
          have HS5 := Lh (HS4.o.keep hb4)
          clear y0 y1 y2 y3 y4 y5 y6 hb4
          cases hwr : wroteB x with
          | true =>
           have HWr := Lh hwr
           clear hwr
           have y3 := HS5.o.ac.cell (i := 3) rfl
           have hrg := thF_range HT1.o hT16 HS5.o.th
           obtain ⟨M, hM⟩ : ∃ M, M = mineC c (csAt c tr j) x := ⟨_, rfl⟩
           rw [<- hM] at hrg
           have HMM := Lh hM
           clear hM
           have m0 : W4.cell? ⟨wb.heap.size, T * 16, none⟩ = some (.int .i64 (M 0)) := hrg 0 _ (clkV_get (by omega))
           have m1 : W4.cell? ⟨wb.heap.size, T * 16 + 1, none⟩ = some (.int .i64 (M 1)) := hrg 1 _ (clkV_get (by omega))
           have m2 : W4.cell? ⟨wb.heap.size, T * 16 + 2, none⟩ = some (.int .i64 (M 2)) := hrg 2 _ (clkV_get (by omega))
           have m3 : W4.cell? ⟨wb.heap.size, T * 16 + 3, none⟩ = some (.int .i64 (M 3)) := hrg 3 _ (clkV_get (by omega))
           have m4 : W4.cell? ⟨wb.heap.size, T * 16 + 4, none⟩ = some (.int .i64 (M 4)) := hrg 4 _ (clkV_get (by omega))
           have m5 : W4.cell? ⟨wb.heap.size, T * 16 + 5, none⟩ = some (.int .i64 (M 5)) := hrg 5 _ (clkV_get (by omega))
           have m6 : W4.cell? ⟨wb.heap.size, T * 16 + 6, none⟩ = some (.int .i64 (M 6)) := hrg 6 _ (clkV_get (by omega))
           have m7 : W4.cell? ⟨wb.heap.size, T * 16 + 7, none⟩ = some (.int .i64 (M 7)) := hrg 7 _ (clkV_get (by omega))
           have m8 : W4.cell? ⟨wb.heap.size, T * 16 + 8, none⟩ = some (.int .i64 (M 8)) := hrg 8 _ (clkV_get (by omega))
           have m9 : W4.cell? ⟨wb.heap.size, T * 16 + 9, none⟩ = some (.int .i64 (M 9)) := hrg 9 _ (clkV_get (by omega))
           have m10 : W4.cell? ⟨wb.heap.size, T * 16 + 10, none⟩ = some (.int .i64 (M 10)) := hrg 10 _ (clkV_get (by omega))
           have m11 : W4.cell? ⟨wb.heap.size, T * 16 + 11, none⟩ = some (.int .i64 (M 11)) := hrg 11 _ (clkV_get (by omega))
           have m12 : W4.cell? ⟨wb.heap.size, T * 16 + 12, none⟩ = some (.int .i64 (M 12)) := hrg 12 _ (clkV_get (by omega))
           have m13 : W4.cell? ⟨wb.heap.size, T * 16 + 13, none⟩ = some (.int .i64 (M 13)) := hrg 13 _ (clkV_get (by omega))
           have m14 : W4.cell? ⟨wb.heap.size, T * 16 + 14, none⟩ = some (.int .i64 (M 14)) := hrg 14 _ (clkV_get (by omega))
           have m15 : W4.cell? ⟨wb.heap.size, T * 16 + 15, none⟩ = some (.int .i64 (M 15)) := hrg 15 _ (clkV_get (by omega))
           clear hrg
           obtain ⟨W9, hst, hM9, hg9⟩ := wd_store (HS5.o.drew).mp (by simp only [maxLen]; omega) x (by omega) HP.o HWr.o M HMM.o
           have HM9 := Lh hM9
           have HG9 := Lh hg9
           clear hM9 hg9
           go_upto_region 22 with fail
           go_region
           go_wp2_with fail
           go_meet
           exact (HS5.o.drew).map HG9.o HM9.o (by omega)
          | false =>
           have HWr := Lh hwr
           clear hwr
           go_wp2_with fail
           go_meet
           exact HS5.o.wd ((HS5.o.mp.mono (Nat.le_succ _)).same (same_no HWr.o))
       case rest =>
        have HS6 := hcut
        clear hcut
        obtain ⟨W6, rfl⟩ : ∃ W6 : World, W6 = wc := ⟨_, rfl⟩
        have hz6 := HS6.o.bel.size
        have hz7 := HS6.o.mp.lt
        go_upto_region 23 with fail
        refine wp_region_lit ?_
        refine wpList_mv rfl _ rfl v rfl ?_
        refine wpList_mv rfl _ rfl (.pointer (some ⟨wb.heap.size, T * 16, none⟩)) rfl ?_
        refine wpList_nc rfl _ rfl _ rfl ?_
        refine wpList_clk rfl _ rfl wb.heap.size (T * 16) rfl (mineC c (csAt c tr j) x) (thF_range HT1.o hT16 HS6.o.th) ?_
        refine wpList_clkSlice rfl _ rfl (mineC c (csAt c tr j) x) rfl ?_
        refine wpList_app _ rfl _ _ 124 rfl (wb.heap.size + 2) 168 i1 (clkV (fun _ => 0)) 16 128 Tryz.underlying124 hi1 hi1z hi1s hi1b (clkV_size _) (by decide) v j _ rfl (HS6.o.own.alloc _) (W6.heap.size + 1) (some ⟨W6.heap.size, 0, none⟩) 1 1 (ints (clkL 16 (mineC c (csAt c tr j) x))) rfl
         (((Blk.new W6 168 _).sl (by simp [ints, clkL])).up (by simp)) ints_oneI (j + 1) rfl (outVals c tr (j + 1)) (by rw [outVals_next, outC_at HX.o]) _ rfl (by simp only [maxLen]; omega) (by omega) (by rw [World.size_alloc]; omega) ?_
        intro A7 k7 W7 hown7 hg7 hat7 hk7 hk8
        have HO7 := Lh hown7
        have HG7 := Lh hg7
        clear hown7 hg7 hat7
        go_wp2_with fail
        go_roundg (gk - 1)
        case measure => omega
        case rel =>
         refine ⟨j + 1, .slice A7 (j + 1) k7, by omega, by go_num, rfl, ?_, ?_, ?_, HO7.o⟩
         ·exact (HS6.o.bel.alloc hz6 _).grown HG7.o (by rw [World.size_alloc]; omega) (fun q hq => by have := (HS6.o.own.lt q hq).1; omega)
         ·rw [csAt_next HX.o]
          exact (HS6.o.th.alloc _).grown HG7.o (own_ne' HS6.o.own (by omega))
         ·rw [csAt_next HX.o]
          exact (HS6.o.mp.below ((Below.refl _ _).alloc (Nat.le_refl _) _)).kept HG7.o (own_ne' HS6.o.own (by omega))
     ·obtain rfl : j = n := by omega
      obtain ⟨A2, k2, rfl, h5, h6⟩ := own_form HOw.o
      have HO := Lh (Sl.of_own HOw.o)
      go_wp2_with fail
      go_ret2
      exact ⟨hb0.trans ((hbr.trans (hbx.mono hzr)).mono (by omega)), Or.inl ⟨HE.o, A2, k2, rfl, HO.o, h5, h6⟩⟩
end Go.Proofs.YtgjdgapfnfhklaaGreat
