/-
  reclaimref27.race, reclaimref27.Pairs.
-/
import Derived.Test.YtgbopmgeicokoaaRst0
import Derived.Test.YtgbopmgeicokoaaPar
import Derived.Test.YtgbopmgeicokoaaClk0
import Derived.BigQuiet
import Derived.Deep.DeepCutAuto
namespace Go.Proofs.Ytgbopmgeicokoaa
open Go.RowKit
set_option linter.unusedVariables false
set_option linter.unusedSimpArgs false

abbrev evcW (e : Ev) (A : Option Addr) (n k : Nat) : Value := .agg #[.int .i64 e.t, .int .i64 e.k, .int .i64 e.a, .bool e.wr, .slice A n k]
def rcB (a b : Ev) (f h : Clk) : Bool := candB a b && decide (h a.t < f a.t)
set_option maxRecDepth 100000 in
set_option maxHeartbeats 4000000 in
theorem rrace_any (a b : Ev) (A A' : Option Addr) (n k k' : Nat) (f h : Clk) (w : World) (hA : Sl w w.heap.size 1 A n (ints (clkL n f))) (hA' : Sl w w.heap.size 1 A' n (ints (clkL n h))) (ht : a.t < n) (hn : n ≤ maxLen) :
    Calls Try.prog 95 #[evcW a A n k, evcW b A' n k'] w (BoolR (rcB a b f h) w) := by
  obtain ⟨w0, hw0⟩ : ∃ w0 : World, w0 = (w.alloc (.cells #[.int .i64 a.t, .int .i64 a.k, .int .i64 a.a, .bool a.wr, .slice A n k] 122)).alloc (.cells #[.int .i64 b.t, .int .i64 b.k, .int .i64 b.a, .bool b.wr, .slice A' n k'] 122) := ⟨_, rfl⟩
  have HA0 : Hid (Blk w0 w.heap.size 122 [.int .i64 a.t, .int .i64 a.k, .int .i64 a.a, .bool a.wr, .slice A n k]) := by rw [hw0]; exact (Blk.new w 122 [.int .i64 a.t, .int .i64 a.k, .int .i64 a.a, .bool a.wr, .slice A n k]).alloc _
  have HB0 : Hid (Blk w0 (w.heap.size + 1) 122 [.int .i64 b.t, .int .i64 b.k, .int .i64 b.a, .bool b.wr, .slice A' n k']) := by
    rw [hw0]
    have h9 := Blk.new (w.alloc (.cells #[.int .i64 a.t, .int .i64 a.k, .int .i64 a.a, .bool a.wr, .slice A n k] 122)) 122 [.int .i64 b.t, .int .i64 b.k, .int .i64 b.a, .bool b.wr, .slice A' n k']
    rw [World.size_alloc] at h9
    exact h9
  have HW0 : Hid (Below w.heap.size w w0) := by rw [hw0]; exact ((Below.refl _ _).alloc (Nat.le_refl _) _).alloc (by simp) _
  have HSA := Lib.hid ((hA.below HW0.out).up HW0.out.size)
  have HSB := Lib.hid ((hA'.below HW0.out).up HW0.out.size)
  have HWe := Lib.hid hw0
  clear hw0 hA hA'
  go_enter Try.func95, Try.ntmps95
  go_upto_region 1 with fail
  rw [← HWe.out]
  clear HWe
  have y0 : w0.cell? ⟨w.heap.size, 0, none⟩ = some (.int .i64 a.t) := HA0.out.cell rfl
  have y1 : w0.cell? ⟨w.heap.size, 1, none⟩ = some (.int .i64 a.k) := HA0.out.cell rfl
  have y2 : w0.cell? ⟨w.heap.size, 2, none⟩ = some (.int .i64 a.a) := HA0.out.cell rfl
  have y3 : w0.cell? ⟨w.heap.size, 3, none⟩ = some (.bool a.wr) := HA0.out.cell rfl
  have z0 : w0.cell? ⟨w.heap.size + 1, 0, none⟩ = some (.int .i64 b.t) := HB0.out.cell rfl
  have z1 : w0.cell? ⟨w.heap.size + 1, 1, none⟩ = some (.int .i64 b.k) := HB0.out.cell rfl
  have z2 : w0.cell? ⟨w.heap.size + 1, 2, none⟩ = some (.int .i64 b.a) := HB0.out.cell rfl
  have z3 : w0.cell? ⟨w.heap.size + 1, 3, none⟩ = some (.bool b.wr) := HB0.out.cell rfl
  obtain ⟨k3a, hk3a⟩ : ∃ k3a, decide (a.k = 3) = k3a := ⟨_, rfl⟩
  obtain ⟨k3b, hk3b⟩ : ∃ k3b, decide (b.k = 3) = k3b := ⟨_, rfl⟩
  have p1 : (a.k == 3) = k3a := hk3a
  have p2 : (b.k == 3) = k3b := hk3b
  obtain ⟨wa, hwa⟩ : ∃ wa, a.wr = wa := ⟨_, rfl⟩
  obtain ⟨wb, hwb⟩ : ∃ wb, b.wr = wb := ⟨_, rfl⟩
  have HCn : Hid (candB a b = (decide (a.a = b.a) && (!decide (a.t = b.t) && ((wa || wb) && !(k3a && k3b))))) := by
    unfold candB
    rw [hk3a, hk3b, hwa, hwb]
    exact Lib.hid rfl
  have HK := Lib.hid hk3a
  have HK2 := Lib.hid hk3b
  rw [hwa] at y3
  rw [hwb] at z3
  clear hk3a hk3b hwa hwb
  go_cut [44] (fun s44 wc => s44 = .bool (!candB a b) ∧ w0 = wc)
  case first =>
    by_cases h1 : a.a = b.a
    case neg =>
      have m1 : ((a.a : Int) != (b.a : Int)) = true := by simp; omega
      have m2 : ¬ (a.a : Int) = (b.a : Int) := by omega
      go_wp2_with fail
      go_meet
      exact ⟨by rw [HCn.out]; simp [h1], rfl⟩
    have m1 : ((a.a : Int) != (b.a : Int)) = false := by simp; omega
    have m2 : (a.a : Int) = (b.a : Int) := by omega
    by_cases h2 : a.t = b.t
    case pos =>
      have m3 : ((a.t : Int) == (b.t : Int)) = true := by simp; omega
      have m4 : (a.t : Int) = (b.t : Int) := by omega
      go_wp2_with fail
      go_meet
      exact ⟨by rw [HCn.out]; simp [h1, h2], rfl⟩
    have m3 : ((a.t : Int) == (b.t : Int)) = false := by simp; omega
    have m4 : ¬ (a.t : Int) = (b.t : Int) := by omega
    cases wa <;> cases wb <;> cases k3a <;> cases k3b
    all_goals (
      have p3 := of_decide_eq HK.out
      have p4 := of_decide_eq HK2.out
      go_wp2_with fail
      go_meet
      exact ⟨by rw [HCn.out]; simp [h1, h2], rfl⟩)
  case rest =>
  obtain ⟨rfl, rfl⟩ := hcut
  clear HCn p1 p2 HK HK2 y1 y2 y3 z0 z1 z2 z3
  have y4 : w0.cell? ⟨w.heap.size, 4, none⟩ = some (.slice A n k) := HA0.out.cell rfl
  have z4 : w0.cell? ⟨w.heap.size + 1, 4, none⟩ = some (.slice A' n k') := HB0.out.cell rfl
  cases hcd : candB a b with
  | false =>
    have hnb : (!false) = true := rfl
    go_wp2_with fail
    go_ret
    exact ⟨by unfold rcB; rw [hcd]; rfl, HW0.out⟩
  | true =>
    have hnb : (!true) = false := rfl
    go_wp2_with fail
    refine (ahead27_any f h A A' n k k' a.t w0 HSA.out HSB.out ht hn).mono ?_
    rintro e w1 ⟨rfl, hb1⟩
    have HB1 := Lib.hid (HW0.out.trans (hb1.mono HW0.out.size))
    clear hb1
    go_wp2_with fail
    go_ret
    refine ⟨?_, HB1.out⟩
    unfold rcB
    rw [hcd]
    by_cases h9 : f a.t ≤ h a.t
    · simp [h9, Int.not_lt.2 h9]
    · simp [h9, Int.lt_of_not_ge h9]

theorem raceE_rcB {es : List Ev} {j i : Nat} {a b : Ev} (h : es[i]? = some a) : raceE es j b i = rcB a b (ckAt es i) (ckAt es j) := race_cand h
theorem evcV_get {n : Nat} {es : List Ev} {cs : List (Nat × Nat)} {j : Nat} {e : Ev} {p : Nat × Nat} (he : es[j]? = some e) (hp : cs[j]? = some p) (q : Nat) (hq : q < 5) : (evcV n es cs)[j * 5 + q]? = (evL e ++ [sl1 n p])[q]? := by
  unfold evcV
  refine flat_get (fun p : Ev × (Nat × Nat) => evL p.1 ++ [sl1 n p.2]) 5 (fun _ => rfl) (x := (e, p)) ?_ q hq
  rw [List.getElem?_zip_eq_some]
  exact ⟨he, hp⟩
/-- events with their clocks, in memory -/
structure EvcAt (W : World) (B n : Nat) (es : List Ev) (cs : List (Nat × Nat)) (A : Option Addr) : Prop where
  sl : Sl W B 5 A es.length (evcV n es cs)
  cl : cs.length = es.length
  cr : ∀ j p, cs[j]? = some p → Sl W B 1 (some ⟨p.1, 0, none⟩) n (ints (clkL n (ckAt es j)))
theorem EvcAt.on {W W' : World} {B n : Nat} {es : List Ev} {cs : List (Nat × Nat)} {A : Option Addr} (h : EvcAt W B n es cs A) (hb : Below B W W') : EvcAt W' B n es cs A := ⟨h.sl.below hb, h.cl, fun j p hp => (h.cr j p hp).below hb⟩
theorem EvcAt.up {W : World} {B B' n : Nat} {es : List Ev} {cs : List (Nat × Nat)} {A : Option Addr} (h : EvcAt W B n es cs A) (hb : B ≤ B') : EvcAt W B' n es cs A := ⟨h.sl.up hb, h.cl, fun j p hp => (h.cr j p hp).up hb⟩
/-- an event's five cells -/
theorem EvcAt.at_ {W : World} {B n j : Nat} {es : List Ev} {cs : List (Nat × Nat)} {A : Option Addr} (h : EvcAt W B n es cs A) {e : Ev} (he : es[j]? = some e) : ∃ p b o, cs[j]? = some p ∧ A = some ⟨b, o, none⟩ ∧ b < B ∧ W.cell? ⟨b, o + j * 5, none⟩ = some (.int .i64 e.t) ∧ W.cell? ⟨b, o + j * 5 + 1, none⟩ = some (.int .i64 e.k) ∧ W.cell? ⟨b, o + j * 5 + 2, none⟩ = some (.int .i64 e.a) ∧ W.cell? ⟨b, o + j * 5 + 3, none⟩ = some (.bool e.wr) ∧ W.cell? ⟨b, o + j * 5 + 4, none⟩ = some (.slice (some ⟨p.1, 0, none⟩) n p.2) := by
  have hj := (List.getElem?_eq_some_iff.1 he).1
  obtain ⟨p, hp⟩ := at_lt (show j < cs.length by rw [h.cl]; exact hj)
  obtain ⟨b, o, hA, hb, hc⟩ := h.sl.2 (by omega)
  refine ⟨p, b, o, hp, hA, hb, ?_, ?_, ?_, ?_, ?_⟩
  · exact hc (j * 5) _ (evcV_get he hp 0 (by omega))
  all_goals rw [Nat.add_assoc]
  · exact hc (j * 5 + 1) _ (evcV_get he hp 1 (by omega))
  · exact hc (j * 5 + 2) _ (evcV_get he hp 2 (by omega))
  · exact hc (j * 5 + 3) _ (evcV_get he hp 3 (by omega))
  · exact hc (j * 5 + 4) _ (evcV_get he hp 4 (by omega))
def RparR (es : List Ev) (w : World) (e : Ending) (w' : World) : Prop := ∃ A k, e = .returned (.slice A (rcsE es es.length).length k) ∧ w'.ownsRow w.heap.size 164 3 (.slice A (rcsE es es.length).length k) (rcsE es es.length).length (rkVals (rcsE es es.length)) ∧ Below w.heap.size w w'
set_option maxRecDepth 100000 in
set_option maxHeartbeats 8000000 in
theorem rpairs_any (es : List Ev) (cs : List (Nat × Nat)) (A : Option Addr) (n m k : Nat) (w : World) (h : EvcAt w w.heap.size n es cs A) (hm : es.length = m) (hm2 : m ≤ 100000) (hn : n ≤ 4) (ht : ∀ e ∈ es, e.t < n) :
    Calls Try.prog 48 #[.slice A m k] w (RparR es w) := by
  have HE := Lib.hid h
  have HM := Lib.hid hm
  have HT := Lib.hid ht
  clear h hm ht
  obtain ⟨i1, hi1, hi1z, hi1s, hi1b⟩ := info_parts info_rc
  go_enter Try.func48, Try.ntmps48
  go_upto_region 3 with fail
  go_loopg [3, 4] m (fun gk v3 i wr => ∃ (j : Nat) (v : Value), j + gk = m ∧ i = .int .i64 j ∧ v = v3 ∧ Hid (Below w.heap.size w wr) ∧ Hid (wr.ownsRow w.heap.size 164 3 v (rcsE es j).length (rkVals (rcsE es j))))
  case atStart => exact ⟨0, _, by omega, rfl, rfl, Below.refl _ _, World.ownsRow_nil _ _ _ _⟩
  case round =>
    obtain ⟨j, v, hj, rfl, hv3, HB, HO⟩ := hrel
    subst hv3
    by_cases hlt : j < m
    · have e1 : (j : Int) < m := by omega
      have e0 : (0 : Int) ≤ j := by omega
      obtain ⟨b, hb⟩ := at_lt (show j < es.length by rw [HM.out]; exact hlt)
      have HGb := Lib.hid hb
      have hbt := HT.out b (List.mem_of_getElem? hb)
      clear hb
      obtain ⟨wo, rfl⟩ : ∃ wo : World, wo = wr := ⟨_, rfl⟩
      obtain ⟨go, rfl⟩ : ∃ go : Nat, go = gk := ⟨_, rfl⟩
      go_cut [3, 4] from 10 to 37 (fun s3 s4 wc => ∃ v', v' = s3 ∧ s4 = .int .i64 ((j + 1 : Nat) : Int) ∧ Hid (Below w.heap.size w wc) ∧ Hid (wc.ownsRow w.heap.size 164 3 v' (rcsE es (j + 1)).length (rkVals (rcsE es (j + 1)))))
      case first =>
        go_wp2_with fail
        go_loopg [3, 5] j (fun gq v3 i wr => ∃ (q : Nat), q + gq = j ∧ i = .int .i64 q ∧ v = v3 ∧ Hid (Below wo.heap.size wo wr) ∧ Hid (∀ q', q' < q → raceE es j b q' = false))
        case atStart => exact ⟨0, by omega, rfl, rfl, Below.refl _ _, fun q' h' => absurd h' (by omega)⟩
        case round =>
          obtain ⟨q, hq, rfl, hv3, HBq, HF⟩ := hrel
          subst hv3
          by_cases hqj : q < j
          · have f1 : (q : Int) < j := by omega
            have f0 : (0 : Int) ≤ q := by omega
            have f2 : (q : Int) < m := by omega
            obtain ⟨a, ha⟩ := at_lt (show q < es.length by rw [HM.out]; omega)
            have HGa := Lib.hid ha
            have hat := HT.out a (List.mem_of_getElem? ha)
            clear ha
            have HEw := Lib.hid (HE.out.on (HB.out.trans (HBq.out.mono HB.out.size)))
            obtain ⟨p, b1, o1, hp, hA1, hb1, c0, c1, c2, c3, c4⟩ := HEw.out.at_ HGa.out
            obtain ⟨p2, b2, o2, hp2, hA2, _, d0, d1, d2, d3, d4⟩ := HEw.out.at_ HGb.out
            rw [hA1] at hA2
            injection hA2 with hA2
            injection hA2 with hA3 hA4
            subst hA3 hA4
            have HP := Lib.hid hp
            have HP2 := Lib.hid hp2
            subst hA1
            have HBs := Lib.hid (Nat.le_trans HB.out.size HBq.out.size)
            have HCall : Hid (∀ W, Below wr.heap.size wr W → Calls Try.prog 95 #[evcW a (some ⟨p.1, 0, none⟩) n p.2, evcW b (some ⟨p2.1, 0, none⟩) n p2.2] W (BoolR (raceE es j b q) W)) := fun W hW => by
              rw [raceE_rcB HGa.out]
              have hE2 := (HEw.out.on (hW.mono HBs.out)).up (Nat.le_trans HBs.out hW.size)
              exact rrace_any a b _ _ n p.2 p2.2 (ckAt es q) (ckAt es j) W (hE2.cr q p HP.out) (hE2.cr j p2 HP2.out) hat (by simp only [maxLen]; omega)
            clear hp hp2
            have hSo : ∀ W, Below wr.heap.size wr W → W.cell? ⟨b1, o1 + q * 5, none⟩ = some (.int .i64 a.t) ∧ W.cell? ⟨b1, o1 + q * 5 + 1, none⟩ = some (.int .i64 a.k) ∧ W.cell? ⟨b1, o1 + q * 5 + 2, none⟩ = some (.int .i64 a.a) ∧ W.cell? ⟨b1, o1 + q * 5 + 3, none⟩ = some (.bool a.wr) ∧ W.cell? ⟨b1, o1 + q * 5 + 4, none⟩ = some (.slice (some ⟨p.1, 0, none⟩) n p.2) ∧ W.cell? ⟨b1, o1 + j * 5, none⟩ = some (.int .i64 b.t) ∧ W.cell? ⟨b1, o1 + j * 5 + 1, none⟩ = some (.int .i64 b.k) ∧ W.cell? ⟨b1, o1 + j * 5 + 2, none⟩ = some (.int .i64 b.a) ∧ W.cell? ⟨b1, o1 + j * 5 + 3, none⟩ = some (.bool b.wr) ∧ W.cell? ⟨b1, o1 + j * 5 + 4, none⟩ = some (.slice (some ⟨p2.1, 0, none⟩) n p2.2) := fun W hW => by
              have k : ∀ (a : Addr) (v : Value), wr.cell? a = some v → W.cell? a = some v := fun a v hv => (hW.cell (World.block_lt_of_cell? wr a hv)).trans hv
              exact ⟨k _ _ c0, k _ _ c1, k _ _ c2, k _ _ c3, k _ _ c4, k _ _ d0, k _ _ d1, k _ _ d2, k _ _ d3, k _ _ d4⟩
            have HSo := Lib.hid hSo
            clear hSo c0 c1 c2 c3 c4 d0 d1 d2 d3 d4
            go_upto_region 8 with fail
            go_region_held3 (fun W => W.cell? ⟨b1, o1 + q * 5, none⟩ = some (.int .i64 a.t) ∧ W.cell? ⟨b1, o1 + q * 5 + 1, none⟩ = some (.int .i64 a.k) ∧ W.cell? ⟨b1, o1 + q * 5 + 2, none⟩ = some (.int .i64 a.a) ∧ W.cell? ⟨b1, o1 + q * 5 + 3, none⟩ = some (.bool a.wr) ∧ W.cell? ⟨b1, o1 + q * 5 + 4, none⟩ = some (.slice (some ⟨p.1, 0, none⟩) n p.2) ∧ W.cell? ⟨b1, o1 + j * 5, none⟩ = some (.int .i64 b.t) ∧ W.cell? ⟨b1, o1 + j * 5 + 1, none⟩ = some (.int .i64 b.k) ∧ W.cell? ⟨b1, o1 + j * 5 + 2, none⟩ = some (.int .i64 b.a) ∧ W.cell? ⟨b1, o1 + j * 5 + 3, none⟩ = some (.bool b.wr) ∧ W.cell? ⟨b1, o1 + j * 5 + 4, none⟩ = some (.slice (some ⟨p2.1, 0, none⟩) n p2.2)) (first | (refine HSo.out _ ?_; assumption) | (refine HSo.out _ ?_; exact (Below.refl _ _).drew)) ((go_at_call 95; refine (HCall.out _ (Below.refl _ _).drew).mono ?_; rintro e w3 ⟨rfl, hb3⟩; have hb4 := (Below.refl wr.heap.size wr).drew.trans hb3))
            have HB3 := Lib.hid (HBq.out.trans (hb4.mono HBq.out.size))
            cases hrc : raceE es j b q with
            | false =>
              have HRq := Lib.hid hrc
              clear hrc
              go_wp2_with fail
              go_roundg (gk - 1)
              case measure => omega
              case rel => exact ⟨q + 1, by omega, by go_num, rfl, HB3, fun q' h' => by
                rcases Nat.lt_or_eq_of_le (Nat.le_of_lt_succ h') with h9 | h9
                · exact HF.out q' h9
                · rw [h9]; exact HRq.out⟩
            | true =>
              have HRt : Hid (rcsE es (j + 1) = rcsE es j ++ [(q, j, (b.a : Int))]) := Lib.hid (rcsE_one HGb.out (find_one HF.out hrc hqj))
              clear hrc
              have d2 : w3.cell? ⟨b1, o1 + j * 5 + 2, none⟩ = some (.int .i64 b.a) := (HSo.out w3 hb4).2.2.2.2.2.2.2.1
              have hown := HO.out.below (HB3.out)
              obtain ⟨Av, kv, hvv, hkv1, hkv2⟩ := own_form HO.out
              have hrl := rcsE_len es j
              have hbz := HB.out.size
              have hbz3 := HB3.out.size
              go_wp2_with (at_builtin; go_must (refine wpList_app _ rfl _ _ 106 rfl w.heap.size 164 i1 (.agg #[.int .i64 0, .int .i64 0, .int .i64 0]) 3 24 Try.underlying106 hi1 hi1z hi1s hi1b rfl (by decide) v (rcsE es j).length _ rfl (hown.alloc _) (w3.heap.size + 1) (some ⟨w3.heap.size, 0, none⟩) 1 1 [.int .i64 q, .int .i64 j, .int .i64 b.a] rfl (((Blk.new w3 164 _).sl rfl).up (by simp)) (rk_one _ _ _) ((rcsE es j).length + 1) rfl _ rfl _ rfl (by simp only [maxLen]; omega) (by omega) (by rw [World.size_alloc]; omega) ?_; intro A7 k7 w7 hown7 hg7 hat7 hk7 hk8))
              go_meet
              refine ⟨_, rfl, by go_num, ?_, ?_⟩
              · exact ((HB.out.trans (HB3.out.mono HB.out.size)).alloc (by omega) _).grown hg7 (by rw [World.size_alloc]; omega) (fun q hq => (HO.out.lt q hq).1)
              · rw [HRt.out, rkVals_snoc, List.length_append]
                exact hown7
          · obtain rfl : q = j := by omega
            have HRn : Hid (rcsE es (q + 1) = rcsE es q) := Lib.hid (rcsE_none HGb.out (find_no HF.out))
            go_wp2_with fail
            go_meet
            exact ⟨_, rfl, by go_num, HB.out.trans (HBq.out.mono HB.out.size), Lib.hid (by rw [HRn.out]; exact HO.out.below HBq.out)⟩
      case rest =>
        obtain ⟨v', hv3, rfl, HB', HO'⟩ := hcut
        subst hv3
        go_wp2_with fail
        go_roundg (go - 1)
        case measure => omega
        case rel => exact ⟨j + 1, _, by omega, by go_num, rfl, HB', HO'⟩
    · have hjm : j = m := by omega
      subst hjm
      obtain ⟨A9, k9, hv9, h91, h92⟩ := own_form HO.out
      subst hv9
      have hml := HM.out
      go_wp2_with fail
      go_ret
      refine ⟨A9, k9, ?_, ?_, HB.out⟩
      · rw [hml]
        rfl
      · rw [hml]
        exact HO.out
end Go.Proofs.Ytgbopmgeicokoaa
