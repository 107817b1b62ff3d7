/-
  The law RacesFrees, walked.
  RacesFrees: for every litmus program races.Free and reclaimref27.Free answer alike; the argument reads behind the call as before it.
  No condition is asked beyond the statement's own.
-/
import Derived.Test.YtgbopmgeicokoaaPfr
import Derived.Test.YtgbopmgeicokoaaRfr0
import Derived.Test.YtgbopmgeicokoaaRck0
import Derived.Test.YtgbopmgeicokoaaClk0
import Derived.BigQuiet
import Derived.Test.YtgbopmgeicokoaaLitOp0
namespace Go.Proofs.Ytgbopmgeicokoaa
open Go.RowKit

set_option maxRecDepth 100000 in
set_option maxHeartbeats 16000000 in
theorem law_frees_no (l : Lit) (w : World) (h : LitAt w w.heap.size l) (hok : okLit l = false) :
    Calls Try.prog 11 #[litV l] w (BoolR true w) := by
  have HB0 : Hid (Blk (w.alloc (.cells #[.slice l.wA l.wn l.wk, .slice l.tA l.tn l.tk] 101)) w.heap.size 101 (litL l)) := Lib.hid (Blk.new _ _ _)
  have HW0 : Hid (Below w.heap.size w (w.alloc (.cells #[.slice l.wA l.wn l.wk, .slice l.tA l.tn l.tk] 101))) := Lib.hid ((Below.refl _ _).alloc (Nat.le_refl _) _)
  have HL := Lib.hid h
  clear h
  go_enter Try.func11, Try.ntmps11
  go_upto_region 1 with fail
  generalize w.alloc (.cells #[.slice l.wA l.wn l.wk, .slice l.tA l.tn l.tk] 101) = w0 at HB0 HW0 ⊢
  have q0 : w0.cell? ⟨w.heap.size, 0, none⟩ = some (.slice l.wA l.wn l.wk) := HB0.out.cell rfl
  have q1 : w0.cell? ⟨w.heap.size, 1, none⟩ = some (.slice l.tA l.tn l.tk) := HB0.out.cell rfl
  go_wp2_with fail
  refine (pfree_no l w0 ((HL.out.keep HW0.out).up HW0.out.size) hok).mono ?_
  rintro e w1 ⟨rfl, hb1⟩
  have HX1 := Lib.hid (HW0.out.trans (hb1.mono HW0.out.size))
  have hL1 := HB0.out.below hb1 HB0.out.lt
  clear hb1 q0 q1
  have q0 : w1.cell? ⟨w.heap.size, 0, none⟩ = some (.slice l.wA l.wn l.wk) := hL1.cell rfl
  have q1 : w1.cell? ⟨w.heap.size, 1, none⟩ = some (.slice l.tA l.tn l.tk) := hL1.cell rfl
  clear hL1
  go_wp2_with fail
  refine (rlcheck_any l w1 ((HL.out.keep HX1.out).up HX1.out.size)).mono ?_
  rintro e w2 ⟨rfl, hb2⟩
  have HX2 := Lib.hid (HX1.out.trans (hb2.mono HX1.out.size))
  rw [hok]
  clear hb2 q0 q1
  go_wp2_with fail
  refine (num27_any _ _).mono ?_
  rintro e _ ⟨rfl, rfl⟩
  go_wp2_with fail
  go_ret
  exact ⟨rfl, HX2.out⟩

theorem bstep_len {l : Lit} {ns : List Nd} {i : Nat} {x : Nd} {t : Nat} (ho : OkNs l ns) (hok : okLit l = true) (hx : ns[i]? = some x) (ht : t < l.tn) :
    (∀ ns', bstep l ns x t = .go ns' → OkNs l ns' ∧ ns'[i]? = some x ∧ ns.length ≤ ns'.length) ∧ ∀ wy, bstep l ns x t = .stop (.race wy) → wy.length ≤ i + 1 := by
  have hl := (List.getElem?_eq_some_iff.1 hx).1
  unfold bstep
  split
  · exact ⟨fun ns' h => by injection h with h; subst h; exact ⟨ho, hx, Nat.le_refl _⟩, fun wy h => by cases h⟩
  · split
    · refine ⟨fun ns' h => by (injection h), fun wy h => ?_⟩
      injection h with h
      injection h with h
      subst h
      have := (ho i x hx).2
      show (x.way ++ [t]).length ≤ _
      simp
      omega
    · split
      · exact ⟨fun ns' h => by injection h with h; subst h; exact ⟨ho, hx, Nat.le_refl _⟩, fun wy h => by cases h⟩
      · split
        · exact ⟨fun ns' h => by (injection h), fun wy h => by injection h with h; (injection h)⟩
        · rename_i hr _ _
          exact ⟨fun ns' h => by injection h with h; subst h; exact ⟨ho.snoc hok hx ht (by simpa using hr), by rw [List.getElem?_append_left hl]; exact hx, by simp⟩, fun wy h => by cases h⟩
theorem brow_len {l : Lit} {i : Nat} {x : Nd} (hok : okLit l = true) : ∀ (k : Nat) (ns : List Nd) (t : Nat), OkNs l ns → ns[i]? = some x → t + k ≤ l.tn →
    (∀ ns', brow l x k ns t = .go ns' → OkNs l ns') ∧ ∀ wy, brow l x k ns t = .stop (.race wy) → wy.length ≤ i + 1
  | 0, ns, t, ho, _, _ => ⟨fun ns' h => by injection h with h; subst h; exact ho, fun wy h => by cases h⟩
  | k + 1, ns, t, ho, hx, ht => by
    obtain ⟨h1, h2⟩ := bstep_len ho hok hx (show t < l.tn by omega)
    rw [brow]
    cases hb : bstep l ns x t with
    | go ns1 =>
      obtain ⟨g1, g2, _⟩ := h1 ns1 hb
      exact brow_len hok k ns1 (t + 1) g1 g2 (by omega)
    | stop a =>
      refine ⟨fun ns' h => (by cases h), fun wy h => ?_⟩
      injection h with h
      subst h
      exact h2 wy hb
theorem bfs_len {l : Lit} (hok : okLit l = true) : ∀ (f : Nat) (ns : List Nd) (i : Nat), OkNs l ns → ∀ wy, bfs l f ns i = .race wy → wy.length ≤ i + f
  | 0, _, _, _, wy, h => by cases h
  | f + 1, ns, i, ho, wy, h => by
    rw [bfs] at h
    cases hx : ns[i]? with
    | none => rw [hx] at h; cases h
    | some x =>
      rw [hx] at h
      obtain ⟨h1, h2⟩ := brow_len hok l.tn ns 0 ho hx (by omega)
      cases hb : brow l x l.tn ns 0 with
      | go ns1 =>
        simp only [hb] at h
        have := bfs_len hok f ns1 (i + 1) (h1 ns1 hb) wy h
        omega
      | stop a =>
        simp only [hb] at h
        subst h
        have := h2 wy hb
        omega
theorem freeN_len {l : Lit} (hok : okLit l = true) (hl : l.ws.length = l.wn) {wy : List Nat} (h : freeN l = .race wy) : wy.length ≤ maxLen := by
  have := bfs_len hok 30001 [rootN l] 0 (OkNs.root hl) wy h
  simp only [maxLen]
  omega

set_option maxRecDepth 100000 in
set_option maxHeartbeats 16000000 in
theorem law_frees_ok (l : Lit) (w : World) (h : LitAt w w.heap.size l) (hok : okLit l = true) (hwf : WfL l) :
    Calls Try.prog 11 #[litV l] w (BoolR true w) := by
  have HB0 : Hid (Blk (w.alloc (.cells #[.slice l.wA l.wn l.wk, .slice l.tA l.tn l.tk] 101)) w.heap.size 101 (litL l)) := Lib.hid (Blk.new _ _ _)
  have HW0 : Hid (Below w.heap.size w (w.alloc (.cells #[.slice l.wA l.wn l.wk, .slice l.tA l.tn l.tk] 101))) := Lib.hid ((Below.refl _ _).alloc (Nat.le_refl _) _)
  have HL := Lib.hid h
  clear h
  obtain ⟨a, ha⟩ : ∃ a, freeN l = a := ⟨_, rfl⟩
  have HPf : Hid (∀ W, Below w.heap.size w W → Calls Try.prog 49 #[litV l] W (FreP l a W)) := Lib.hid fun W hW => by
    rw [← ha]
    exact pfree_any l W ((HL.out.keep hW).up hW.size) hok hwf
  have HRf : Hid (∀ W, Below w.heap.size w W → Calls Try.prog 50 #[litV l] W (RfrP a W)) := Lib.hid fun W hW => by
    rw [← ha]
    exact rfree_any l W ((HL.out.keep hW).up hW.size) hok
  have HWy : Hid (∀ wy, a = .race wy → wy.length ≤ maxLen) := Lib.hid fun wy he => freeN_len hok HL.out.wlen (ha.trans he)
  clear ha
  go_enter Try.func11, Try.ntmps11
  go_upto_region 1 with fail
  generalize w.alloc (.cells #[.slice l.wA l.wn l.wk, .slice l.tA l.tn l.tk] 101) = w0 at HB0 HW0 ⊢
  have q0 : w0.cell? ⟨w.heap.size, 0, none⟩ = some (.slice l.wA l.wn l.wk) := HB0.out.cell rfl
  have q1 : w0.cell? ⟨w.heap.size, 1, none⟩ = some (.slice l.tA l.tn l.tk) := HB0.out.cell rfl
  go_wp2_with fail
  refine (HPf.out w0 HW0.out).mono ?_
  intro e w1 hfp
  cases a with
  | free =>
    obtain ⟨rfl, hb1⟩ := hfp
    have HX1 := Lib.hid (HW0.out.trans (hb1.mono HW0.out.size))
    have hL1 := HB0.out.below hb1 HB0.out.lt
    clear hb1 q0 q1
    have q0 : w1.cell? ⟨w.heap.size, 0, none⟩ = some (.slice l.wA l.wn l.wk) := hL1.cell rfl
    have q1 : w1.cell? ⟨w.heap.size, 1, none⟩ = some (.slice l.tA l.tn l.tk) := hL1.cell rfl
    have HL1 := Lib.hid hL1
    clear hL1
    go_wp2_with fail
    refine (rlcheck_any l w1 ((HL.out.keep HX1.out).up HX1.out.size)).mono ?_
    rintro e w2 ⟨rfl, hb2⟩
    have HX2 := Lib.hid (HX1.out.trans (hb2.mono HX1.out.size))
    have hL2 := HL1.out.below hb2 HL1.out.lt
    rw [hok]
    clear hb2 q0 q1
    have q0 : w2.cell? ⟨w.heap.size, 0, none⟩ = some (.slice l.wA l.wn l.wk) := hL2.cell rfl
    have q1 : w2.cell? ⟨w.heap.size, 1, none⟩ = some (.slice l.tA l.tn l.tk) := hL2.cell rfl
    clear hL2
    go_wp2_with fail
    refine (HRf.out w2 HX2.out).mono ?_
    rintro e w3 ⟨rfl, hb3⟩
    have HX3 := Lib.hid (HX2.out.trans (hb3.mono HX2.out.size))
    clear hb3 q0 q1
    go_wp2_with fail
    refine (num27_any _ _).mono ?_
    rintro e _ ⟨rfl, rfl⟩
    go_wp2_with fail
    go_loopg [9] 1 (fun gk i wr => i = .int .i64 0 ∧ Hid (Below w.heap.size w wr))
    case atStart => exact ⟨rfl, HX3⟩
    case round =>
      obtain ⟨rfl, HB⟩ := hrel
      go_wp2_with fail
      go_ret
      exact ⟨rfl, HB.out⟩
  | race wy =>
    obtain ⟨A1, k1, rfl, ho1, hb1⟩ := hfp
    have HX1 := Lib.hid (HW0.out.trans (hb1.mono HW0.out.size))
    have hL1 := HB0.out.below hb1 HB0.out.lt
    have HO1 := Lib.hid (Sl.of_own ho1)
    clear ho1
    clear hb1 q0 q1
    have q0 : w1.cell? ⟨w.heap.size, 0, none⟩ = some (.slice l.wA l.wn l.wk) := hL1.cell rfl
    have q1 : w1.cell? ⟨w.heap.size, 1, none⟩ = some (.slice l.tA l.tn l.tk) := hL1.cell rfl
    have HL1 := Lib.hid hL1
    clear hL1
    go_wp2_with fail
    refine (rlcheck_any l w1 ((HL.out.keep HX1.out).up HX1.out.size)).mono ?_
    rintro e w2 ⟨rfl, hb2⟩
    have HX2 := Lib.hid (HX1.out.trans (hb2.mono HX1.out.size))
    have hL2 := HL1.out.below hb2 HL1.out.lt
    rw [hok]
    have HO2 := Lib.hid ((HO1.out.below hb2).up hb2.size)
    clear hb2 q0 q1
    have q0 : w2.cell? ⟨w.heap.size, 0, none⟩ = some (.slice l.wA l.wn l.wk) := hL2.cell rfl
    have q1 : w2.cell? ⟨w.heap.size, 1, none⟩ = some (.slice l.tA l.tn l.tk) := hL2.cell rfl
    clear hL2
    go_wp2_with fail
    refine (HRf.out w2 HX2.out).mono ?_
    rintro e w3 ⟨A3, k3, rfl, ho3, hb3⟩
    have HX3 := Lib.hid (HX2.out.trans (hb3.mono HX2.out.size))
    have HO3 := Lib.hid (Sl.of_own ho3)
    have HO4 := Lib.hid ((HO2.out.below hb3).up hb3.size)
    obtain ⟨n, hn⟩ : ∃ n, n = wy.length := ⟨_, rfl⟩
    have hnm : n ≤ maxLen := by rw [hn]; exact HWy.out wy rfl
    unfold maxLen at hnm
    have HN := Lib.hid hn
    have HO3n : Hid (Sl w3 w3.heap.size 3 A3 n (tnVals (wy.map tnW))) := by rw [hn]; exact HO3
    have HO4n : Hid (Sl w3 w3.heap.size 3 A1 n (tnVals (wy.map tnW))) := by rw [hn]; exact HO4
    rw [← hn]
    have b1 : ((n : Int) != (n : Int)) = false := by simp
    clear hb3 q0 q1 hn ho3 HO3 HO4
    go_wp2_with fail
    refine (num27_any _ _).mono ?_
    rintro e w4 ⟨rfl, rfl⟩
    go_wp2_with fail
    go_loopg [9] n (fun gk i wr => ∃ q : Nat, q + gk = n ∧ i = .int .i64 q ∧ Hid (Below w4.heap.size w4 wr))
    case atStart => exact ⟨0, by omega, rfl, Below.refl _ _⟩
    case round =>
      obtain ⟨q, hq, rfl, HB⟩ := hrel
      by_cases hlt : q < n
      · obtain ⟨x, hx⟩ := at_lt (show q < (wy.map tnW).length by rw [List.length_map, ← HN.out]; exact hlt)
        obtain ⟨b, o, rfl, hb, hc⟩ := (HO4n.out.below HB.out).2 (by omega)
        obtain ⟨b', o', rfl, hb', hc'⟩ := (HO3n.out.below HB.out).2 (by omega)
        have c0 := hc (q * 3) _ (tnVals_get hx 0 (by omega))
        have c1 := hc (q * 3 + 1) _ (tnVals_get hx 1 (by omega))
        have c2 := hc (q * 3 + 2) _ (tnVals_get hx 2 (by omega))
        have d0 := hc' (q * 3) _ (tnVals_get hx 0 (by omega))
        have d1 := hc' (q * 3 + 1) _ (tnVals_get hx 1 (by omega))
        have d2 := hc' (q * 3 + 2) _ (tnVals_get hx 2 (by omega))
        rw [← Nat.add_assoc] at c1 c2 d1 d2
        have f1 : (q : Int) < n := by omega
        have f0 : (0 : Int) ≤ q := by omega
        clear hc hc' hx
        obtain ⟨x1, x2, x3⟩ := x
        dsimp only at c0 c1 c2 d0 d1 d2
        go_upto_region 12 with fail
        go_quiet (fail)
        have HB2 := Lib.hid (HB.out.trans ((Below.refl wr.heap.size wr).drewN nq |>.mono HB.out.size))
        go_wp2_with fail
        go_roundg (gk - 1)
        case measure => omega
        case rel => exact ⟨q + 1, by omega, by go_num, HB2⟩
      · obtain rfl : q = n := by omega
        go_wp2_with fail
        go_ret
        exact ⟨rfl, HX3.out.trans (HB.out.mono HX3.out.size)⟩
  | many =>
    obtain ⟨rfl, hb1⟩ := hfp
    have HX1 := Lib.hid (HW0.out.trans (hb1.mono HW0.out.size))
    have hL1 := HB0.out.below hb1 HB0.out.lt
    clear hb1 q0 q1
    have q0 : w1.cell? ⟨w.heap.size, 0, none⟩ = some (.slice l.wA l.wn l.wk) := hL1.cell rfl
    have q1 : w1.cell? ⟨w.heap.size, 1, none⟩ = some (.slice l.tA l.tn l.tk) := hL1.cell rfl
    have HL1 := Lib.hid hL1
    clear hL1
    go_wp2_with fail
    refine (rlcheck_any l w1 ((HL.out.keep HX1.out).up HX1.out.size)).mono ?_
    rintro e w2 ⟨rfl, hb2⟩
    have HX2 := Lib.hid (HX1.out.trans (hb2.mono HX1.out.size))
    have hL2 := HL1.out.below hb2 HL1.out.lt
    rw [hok]
    clear hb2 q0 q1
    have q0 : w2.cell? ⟨w.heap.size, 0, none⟩ = some (.slice l.wA l.wn l.wk) := hL2.cell rfl
    have q1 : w2.cell? ⟨w.heap.size, 1, none⟩ = some (.slice l.tA l.tn l.tk) := hL2.cell rfl
    clear hL2
    go_wp2_with fail
    refine (HRf.out w2 HX2.out).mono ?_
    rintro e w3 ⟨rfl, hb3⟩
    have HX3 := Lib.hid (HX2.out.trans (hb3.mono HX2.out.size))
    clear hb3 q0 q1
    go_wp2_with fail
    refine (num27_any _ _).mono ?_
    rintro e _ ⟨rfl, rfl⟩
    go_wp2_with fail
    go_ret
    exact ⟨rfl, HX3.out⟩
end Go.Proofs.Ytgbopmgeicokoaa
namespace Go.Proofs.Ytgbopmgeicokoaa
open Go.ChangeShapes Go.WideShapes Go.ChangeAt Go.RowKit
set_option linter.unusedVariables false
set_option linter.unusedSimpArgs false

theorem law_frees (l : Lit) (w : World) (h : LitAt w w.heap.size l) (hwf : WfL l) : Calls Try.prog 11 #[litV l] w (BoolR true w) := by
  cases hok : okLit l with
  | false => exact law_frees_no l w h hok
  | true => exact law_frees_ok l w h hok hwf

set_option maxRecDepth 100000 in
theorem racesFrees_lifted (os : Os) (started : os.Started) (H : Type) (enc : TypeId × Value → H) :
    ReturnsInHanded {} Try.checked os 11 .any (Rows.racesFreesSpec.pre6 enc Try.prog Try.f11 Rows.racesFreesRow.domain false) (Rows.racesFreesSpec.post enc Try.prog Try.f11 false true false false) := by
  refine returnsInHanded_of_change_sized (C := Try.checked) own started (by kernel_rfl) Try.func11
    (ChangeSpec.witness6 (enc := enc) (C := Try.checked) false ⟨#[], #[.agg #[.slice none 0 0, .slice none 0 0]], []⟩ 8 (by kernel_rfl) (by kernel_rfl) (by kernel_rfl) (by kernel_rfl)) ?_
  intro W base args ds gs before hval0 hW0 hcnd hsz _
  have hW : DataW.Whole enc Try.prog Try.f11.params.toList Rows.racesFreesSpec.vars false W args.toList ds gs before := hW0
  have hval : ∀ (j : Nat) t v, Try.f11.params[j]? = some t → args[j]? = some v → Value.okWide Try.prog W .any base t v := hval0
  clear hval0 hW0
  have hP : ∀ {W'}, Below W.heap.size W W' → ∃ v, Ending.returned (.bool true) = .returned v ∧ Rows.racesFreesSpec.post enc Try.prog Try.f11 false true false false W args v W' := by
    intro W' hb
    refine ⟨_, rfl, law_post (t := 4) rfl rfl Try.underlying4 (by kernel_rfl) hW ?_ hb⟩
    obtain ⟨p, q, hA, hV, _⟩ := hW
    obtain ⟨rfl, rfl⟩ := trodVars_none hV
    have hA' : DataW.TrodAll enc Try.prog W 0 (fun _ => true) true [101] args.toList ds p := hA
    obtain ⟨v0, d0, _, rfl, _⟩ := trodAll_one hA'
    rfl
  obtain ⟨p, q, hA0, hV, rfl, hfz, hnd⟩ := hW
  have hA : DataW.TrodAll enc Try.prog W 0 (fun _ => true) true [101] args.toList ds p := hA0
  have hpar : Try.f11.params = #[101] := Try.params11
  rw [hpar] at hval
  clear hA0
  obtain ⟨v0, d0, rfl, rfl, h0⟩ := trodAll_one hA
  obtain ⟨l, rfl, hL, hw, hv⟩ := open_lit2 (hval 0 101 v0 rfl rfl) h0
  exact (law_frees l W hL ⟨hw, hv⟩).mono fun e W' ⟨he, hb⟩ => by
    subst he
    exact hP hb

theorem racesFrees_holds : Rows.RacesFreesSaid :=
  OpenClaim.holds_of_wide 11 Try.f11 rfl rfl rfl rfl rfl rfl rfl ⟨rfl, rfl, rfl, rfl, rfl⟩ rfl rfl rfl rfl rfl (by kernel_rfl) Try.func11 (by kernel_rfl)
    (of_decide_eq_true (by kernel_rfl)) (by unfold Func.isWrapper; first | (rw [if_pos (by decide +kernel)]; kernel_rfl) | (rw [if_neg (by decide +kernel)]; exact ⟨rfl, rfl⟩))
    (fun os started H enc _ => racesFrees_lifted os started H enc)
#print axioms racesFrees_holds
end Go.Proofs.Ytgbopmgeicokoaa
