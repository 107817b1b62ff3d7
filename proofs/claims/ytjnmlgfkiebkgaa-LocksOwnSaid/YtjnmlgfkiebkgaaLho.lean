/-
  locks.Holds.
-/
import Derived.Test.YtjnmlgfkiebkgaaLsv
import Derived.Laws.StructEq
namespace Go.Proofs.Ytjnmlgfkiebkgaa
open Go.RowKit
set_option linter.unusedVariables false
set_option linter.unusedSimpArgs false

theorem ans_map : (Try.prog.fieldsOf 60).toList.map (fun f => (f.name, f.type, f.offset)) = [("Kind", 58, 0), ("Value", 3, 1)] := by kernel_rfl
theorem ans_fields : ∃ f g : Field, (Try.prog.fieldsOf 60).toList = [f, g] ∧ f.name = "Kind" ∧ g.name = "Value" ∧ f.offset = 0 ∧ g.offset = 1 ∧ f.type = 58 ∧ g.type = 3 := by
  have h := ans_map
  revert h
  generalize (Try.prog.fieldsOf 60).toList = l
  intro h
  match l with
  | [] => simp at h
  | [f] => simp at h
  | [f, g] =>
    simp at h
    exact ⟨f, g, rfl, h.1.1, h.2.1, h.1.2.2, h.2.2.2, h.1.2.1, h.2.2.1⟩
  | f :: g :: k :: r => simp at h
theorem ans_st : Try.prog.underlying 60 = some (.struct (Try.prog.fieldsOf 60)) := by kernel_rfl
theorem ans_held : Try.prog.stoodInHeld 60 = false := by kernel_rfl
theorem ans_guard : Try.prog.eqGuardType Try.prog.depth 60 = false := by kernel_rfl
theorem ans_k : Try.prog.underlying 58 = some (.int .i64) := by kernel_rfl
theorem ans_eqIn (a b c d : Int) (w : World) : (Op.equalIn 10000 60 (.agg #[.int .i64 a, .int .i64 b]) (.agg #[.int .i64 c, .int .i64 d])).run Try.prog w = .ok (a == c && b == d) w := by
  obtain ⟨f, g, h1, h2, h3, h4, h5, h6, h7⟩ := ans_fields
  have h8 : ∀ w, (isAgg 58).run Try.prog w = .ok false w := fun w => by simp [isAgg, run_underlying ans_k]
  have h9 := Try.isAgg3
  rw [run_equalIn_struct w 9999 _ _ _ ans_st ans_held, h1]
  simp only [Op.eqFields, h2, h3, h4, h5, h6, h7, part, Sem.run_bind, h8, h9, Result.andThen_ok]
  simp [run_equalIn_int w 9998 _ .i64 .i64 _ _ ans_k, run_equalIn_int w 9998 _ .i64 .i64 _ _ Try.underlying3, h9]
  by_cases e1 : a = c <;> by_cases e2 : b = d <;> simp [e1, e2]
theorem ans_neq (a b c d : Int) (w : World) : (binOp .neq 60 (.agg #[.int .i64 a, .int .i64 b]) (.agg #[.int .i64 c, .int .i64 d])).run Try.prog w = .ok (.bool (!(a == c && b == d))) w := by
  rw [run_neq_struct, ans_eqIn]
  rfl
theorem ans_eql (a b c d : Int) (w : World) : (binOp .eql 60 (.agg #[.int .i64 a, .int .i64 b]) (.agg #[.int .i64 c, .int .i64 d])).run Try.prog w = .ok (.bool (a == c && b == d)) w := by
  rw [run_eql_struct, ans_eqIn]
  rfl
end Go.Proofs.Ytjnmlgfkiebkgaa
namespace Go.Proofs.Ytjnmlgfkiebkgaa
open Go.RowKit
set_option linter.unusedVariables false
set_option linter.unusedSimpArgs false

def clash (a b : St) : Bool := !(a.sh && b.sh) && (!a.apart b && !b.apart a)
def anyClash : List St → Bool
  | [] => false
  | a :: r => r.any (clash a) || anyClash r
def Cal.isTouch (x : Cal) : Bool := x.op == 124 && x.fin != -1
def countOk : Nat → List Cal → Bool
  | _, [] => true
  | i, x :: r => (x.ak == 2 && x.av == i) && countOk (i + 1) r
def wordOk (words : List Int) (n : Nat) : Bool := match words with | [] => false | v :: _ => v == (n : Int)
def holdsP (l : List St) (t : List Cal) (words : List Int) : Bool := bif anyClash l then false else bif countOk 0 t then wordOk words t.length else false
def HoldsR (b : Bool) (w : World) (e : Ending) (w' : World) : Prop := e = .returned (.tuple #[.bool b, .int .i64 0]) ∧ Below w.heap.size w w'
theorem styVals_get {l : List St} {t : Nat} {c : St} (hh : l[t]? = some c) (j : Nat) (hj : j < 4) : (styVals l)[t * 4 + j]? = (styL c)[j]? := flat_getL (enc := fun x => styL x) (k := 4) (fun _ => rfl) hh j hj
theorem calVals_snoc (l : List Cal) (s : Cal) : calVals l ++ calL s = calVals (l ++ [s]) := by simp [calVals]
theorem own_cap {w : World} {base : Nat} {e : TypeId} {size n c : Nat} {A : Option Addr} {xs : List Value} (h : w.ownsRow base e size (.slice A n c) n xs) : n ≤ c ∧ c ≤ maxLen := by
  obtain ⟨A', k', h1, h2⟩ := own_form h
  injection h1 with _ _ h1
  subst h1
  exact h2
theorem styS_len {l l' : List St} (h : styVals l' = styVals l') (w : World) {B : Nat} {v : Value} (ho : w.ownsRow B 68 4 v l.length (styVals l')) : l'.length = l.length := by
  have h1 := ho.1
  have h2 := flat_lenL (enc := fun x => styL x) (k := 4) (fun _ => rfl) l'
  have h3 : (styVals l').length = l'.length * 4 := h2
  omega
theorem calS_len {l l' : List Cal} (w : World) {B : Nat} {v : Value} (ho : w.ownsRow B 62 9 v l.length (calVals l')) : l'.length = l.length := by
  have h1 := ho.1
  have h2 := flat_lenL (enc := fun x => calL x) (k := 9) (fun _ => rfl) l'
  have h3 : (calVals l').length = l'.length * 9 := h2
  omega
set_option maxRecDepth 100000 in
set_option maxHeartbeats 16000000 in
theorem holds_any (T k : Int) (hk : rangeB T k 1 7 = true) (calls : List Cal) (words : List Int) (Ac At As Aw : Option Addr) (kc nt kt ns ks kw : Nat) (w : World) (h : Sl w w.heap.size 9 Ac calls.length (calVals calls)) (hw : Sl w w.heap.size 1 Aw words.length (u64s words)) (hn : calls.length ≤ 1954687338211) (hm : words.length ≤ 17592186044416) (hkc : calls.length ≤ kc ∧ kc ≤ maxLen) (l' : List St) (hs : styS (stays0 calls) l') (t' : List Cal) (ht : calS (calls.filter Cal.isTouch) t') :
    Calls Try.prog 18 #[.agg #[.int .i64 T, .int .i64 k], .agg #[.slice Ac calls.length kc, .slice At nt kt, .slice As ns ks, .slice Aw words.length kw]] w (HoldsR (holdsP l' t' words) w) := by
  obtain ⟨i1, hi1, hi1z, hi1s, hi1b⟩ := info_parts info_cac
  have HS := Lib.hid h
  have HW := Lib.hid hw
  have HO := Lib.hid hs
  have HT := Lib.hid ht
  have HK := Lib.hid hk
  clear h hs hk ht hw
  go_enter Try.func18, Try.ntmps18
  go_upto_region 1 with fail
  have hb0 : Below w.heap.size w ((w.alloc (.cells #[.int .i64 T, .int .i64 k] 24)).alloc (.cells #[.slice Ac calls.length kc, .slice At nt kt, .slice As ns ks, .slice Aw words.length kw] 39)) := ((Below.refl _ _).alloc (Nat.le_refl _) _).alloc (by simp) _
  have hr0 : Blk ((w.alloc (.cells #[.int .i64 T, .int .i64 k] 24)).alloc (.cells #[.slice Ac calls.length kc, .slice At nt kt, .slice As ns ks, .slice Aw words.length kw] 39)) (w.heap.size + 1) 39 [.slice Ac calls.length kc, .slice At nt kt, .slice As ns ks, .slice Aw words.length kw] := new1_blk' _ _ _ _
  have hl0 : Blk ((w.alloc (.cells #[.int .i64 T, .int .i64 k] 24)).alloc (.cells #[.slice Ac calls.length kc, .slice At nt kt, .slice As ns ks, .slice Aw words.length kw] 39)) w.heap.size 24 [.int .i64 T, .int .i64 k] := (Blk.new w _ _).alloc _
  generalize (w.alloc (.cells #[.int .i64 T, .int .i64 k] 24)).alloc (.cells #[.slice Ac calls.length kc, .slice At nt kt, .slice As ns ks, .slice Aw words.length kw] 39) = w0 at hb0 hr0 hl0 ⊢
  have hz0 := hb0.size
  have hrl := hr0.lt
  have r0 : w0.cell? ⟨w.heap.size + 1, 0, none⟩ = some (.slice Ac calls.length kc) := hr0.cell rfl
  have r1 : w0.cell? ⟨w.heap.size + 1, 1, none⟩ = some (.slice At nt kt) := hr0.cell rfl
  have r2 : w0.cell? ⟨w.heap.size + 1, 2, none⟩ = some (.slice As ns ks) := hr0.cell rfl
  have r3 : w0.cell? ⟨w.heap.size + 1, 3, none⟩ = some (.slice Aw words.length kw) := hr0.cell rfl
  have l0 : w0.cell? ⟨w.heap.size, 0, none⟩ = some (.int .i64 T) := hl0.cell rfl
  have l1 : w0.cell? ⟨w.heap.size, 1, none⟩ = some (.int .i64 k) := hl0.cell rfl
  have HR0 := Lib.hid hr0
  have HB0 := Lib.hid hb0
  clear hr0 hl0 hb0
  have hcall := stays_any T k HK.out calls Ac At As Aw kc nt kt ns ks words.length kw w0 ((HS.out.below HB0.out).up hz0) hn hkc l' HO.out
  have HC := Lib.hid hcall
  clear hcall
  go_wp2_with fail
  refine HC.out.mono ?_
  rintro e w1 ⟨A6, k6, rfl, ho6, hb1⟩
  have hl' : l'.length = (stays0 calls).length := styS_len rfl w1 ho6
  rw [← hl'] at ho6 ⊢
  have hcap := own_cap ho6
  have HO6 := Lib.hid ho6
  have HB1 : Hid (Below w.heap.size w w1) := HB0.out.trans (hb1.mono hz0)
  have hz1 := hb1.size
  have HR1 := Lib.hid (HR0.out.below hb1 hrl)
  have hln : l'.length ≤ 1954687338211 := by have := stays0_len calls; omega
  have HSl := Lib.hid (Sl.of_own ho6)
  clear ho6 hb1 hl' HC r0 r1 r2 r3 l0 l1 HO HR0 HB0
  go_wp2_with fail
  go_loopg [29] l'.length (fun gk i wr => ∃ (j : Nat), j + gk = l'.length ∧ i = .int .i64 j ∧ Hid (Below w1.heap.size w1 wr) ∧ Hid (anyClash (l'.drop j) = anyClash l'))
  case atStart => exact ⟨0, by omega, rfl, Below.refl _ _, rfl⟩
  case round =>
    obtain ⟨j, hj, rfl, hB, hD⟩ := hrel
    have hzr := hB.out.size
    by_cases hlt : j < l'.length
    · obtain ⟨x, hx⟩ := at_lt hlt
      have e1 : (j : Int) < l'.length := by omega
      have e0 : (0 : Int) ≤ j := by omega
      have hs := (HSl.out.below hB.out).2 (by omega)
      obtain ⟨b, f, hA, hbl, hcell⟩ := hs
      have v0 : wr.cell? ⟨b, f + j * 4, none⟩ = some (.int .i64 x.th) := by have := hcell (j * 4 + 0) _ (styVals_get hx 0 (by omega)); simpa using this
      have v1 : wr.cell? ⟨b, f + j * 4 + 1, none⟩ = some (.bool x.sh) := by have := hcell (j * 4 + 1) _ (styVals_get hx 1 (by omega)); rw [← Nat.add_assoc] at this; exact this
      have v2 : wr.cell? ⟨b, f + j * 4 + 2, none⟩ = some (.int .i64 x.fr) := by have := hcell (j * 4 + 2) _ (styVals_get hx 2 (by omega)); rw [← Nat.add_assoc] at this; exact this
      have v3 : wr.cell? ⟨b, f + j * 4 + 3, none⟩ = some (.int .i64 x.til) := by have := hcell (j * 4 + 3) _ (styVals_get hx 3 (by omega)); rw [← Nat.add_assoc] at this; exact this
      have hD2 : l'.drop j = x :: l'.drop (j + 1) := drop_cons hx
      have HD2 := Lib.hid hD2
      subst hA
      have hbe : b < wr.heap.size := by omega
      have q1 : IntKind.i64.wrap ((j : Int) + 1) = (j : Int) + 1 := IntWalk.i64_in _ (by omega)
      have q2 : (0 : Int) ≤ (j : Int) + 1 := by omega
      have q3 : ((j : Int) + 1).toNat = j + 1 := by omega
      have q4 : j + 1 ≤ l'.length := by omega
      have q5 : (j : Int) + 1 ≤ l'.length := by omega
      have q6 : (l'.length : Int) ≤ k6 := by omega
      have q8 : j + 1 ≤ k6 := by omega
      have q9 : (j : Int) + 1 ≤ k6 := by omega
      clear hcell hx hD2
      by_cases hlast : j + 1 = l'.length
      · have hnil : l'.drop (j + 1) = [] := List.drop_of_length_le (by omega)
        have HN := Lib.hid hnil
        have z1 : l'.length - (j + 1) = 0 := by omega
        clear hnil hlast
        by_cases hkj : k6 = j + 1
        · have hiff : k6 = j + 1 ↔ True := iff_true_intro hkj
          clear hkj
          go_wp2_with fail
          refine wp_loop_rounds 1 ?_
          rw [rounds_succ]
          go_wp2_with fail
          go_roundg (gk - 1)
          case measure => omega
          case rel => exact ⟨j + 1, by omega, by go_num, hB.out.alloc hzr _, by show _ = _; rw [← hD.out, HD2.out, HN.out]; rfl⟩
        · go_wp2_with fail
          refine wp_loop_rounds 1 ?_
          rw [rounds_succ]
          go_wp2_with fail
          go_roundg (gk - 1)
          case measure => omega
          case rel => exact ⟨j + 1, by omega, by go_num, hB.out.alloc hzr _, by show _ = _; rw [← hD.out, HD2.out, HN.out]; rfl⟩
      · have hne : ¬ k6 = j + 1 := by omega
        go_upto_region 8 with fail
        have hb2 : Below w1.heap.size w1 (wr.alloc (.cells #[.int .i64 x.th, .bool x.sh, .int .i64 x.fr, .int .i64 x.til] 68)) := hB.out.alloc hzr _
        have hc2 : Blk (wr.alloc (.cells #[.int .i64 x.th, .bool x.sh, .int .i64 x.fr, .int .i64 x.til] 68)) wr.heap.size 68 [.int .i64 x.th, .bool x.sh, .int .i64 x.fr, .int .i64 x.til] := Blk.new wr _ _
        generalize wr.alloc (.cells #[.int .i64 x.th, .bool x.sh, .int .i64 x.fr, .int .i64 x.til] 68) = w2 at hb2 hc2 ⊢
        have hcl := hc2.lt
        have hz2 := hb2.size
        have HB2 := Lib.hid hb2
        have HC2 := Lib.hid hc2
        clear hb2 hc2 v0 v1 v2 v3
        go_wp2_with fail
        obtain ⟨wo, rfl⟩ : ∃ wo : World, wo = wr := ⟨_, rfl⟩
        obtain ⟨go, rfl⟩ : ∃ go : Nat, go = gk := ⟨_, rfl⟩
        go_loopg [39] (l'.length - (j + 1)) (fun g2 i wq => ∃ q : Nat, q + g2 = l'.length - (j + 1) ∧ i = .int .i64 q ∧ Hid (Below w2.heap.size w2 wq) ∧ Hid ((l'.drop (j + 1)).any (clash x) = (l'.drop (j + 1 + q)).any (clash x)))
        case atStart => exact ⟨0, by omega, rfl, Below.refl _ _, rfl⟩
        case round =>
          obtain ⟨q, hq, rfl, hBq, hF⟩ := hrel
          have hzq := hBq.out.size
          have hc3 := HC2.out.below hBq.out hcl
          have hBt : Hid (Below w1.heap.size w1 wr) := HB2.out.trans (hBq.out.mono (by omega))
          have hcl3 := hc3.lt
          by_cases hltq : j + 1 + q < l'.length
          · obtain ⟨y, hy⟩ := at_lt hltq
            have p1 : (q : Int) < (l'.length - (j + 1) : Nat) := by omega
            have p0 : (0 : Int) ≤ q := by omega
            have hs := (HSl.out.below hBt.out).2 (by omega)
            obtain ⟨b', f', hA', hbl', hcell⟩ := hs
            injection hA' with hA'
            injection hA' with hA1 hA2
            subst hA1 hA2
            have v0 : wr.cell? ⟨b, f + (j + 1) * 4 + q * 4, none⟩ = some (.int .i64 y.th) := by have := hcell ((j + 1 + q) * 4 + 0) _ (styVals_get hy 0 (by omega)); rwa [show f + ((j + 1 + q) * 4 + 0) = f + (j + 1) * 4 + q * 4 by omega] at this
            have v1 : wr.cell? ⟨b, f + (j + 1) * 4 + q * 4 + 1, none⟩ = some (.bool y.sh) := by have := hcell ((j + 1 + q) * 4 + 1) _ (styVals_get hy 1 (by omega)); rwa [show f + ((j + 1 + q) * 4 + 1) = f + (j + 1) * 4 + q * 4 + 1 by omega] at this
            have v2 : wr.cell? ⟨b, f + (j + 1) * 4 + q * 4 + 2, none⟩ = some (.int .i64 y.fr) := by have := hcell ((j + 1 + q) * 4 + 2) _ (styVals_get hy 2 (by omega)); rwa [show f + ((j + 1 + q) * 4 + 2) = f + (j + 1) * 4 + q * 4 + 2 by omega] at this
            have v3 : wr.cell? ⟨b, f + (j + 1) * 4 + q * 4 + 3, none⟩ = some (.int .i64 y.til) := by have := hcell ((j + 1 + q) * 4 + 3) _ (styVals_get hy 3 (by omega)); rwa [show f + ((j + 1 + q) * 4 + 3) = f + (j + 1) * 4 + q * 4 + 3 by omega] at this
            have HD3 : Hid ((l'.drop (j + 1 + q)) = y :: l'.drop (j + 1 + q + 1)) := drop_cons hy
            have HC3 := Lib.hid hc3
            have hbq : b < wr.heap.size := by omega
            clear hcell hy hc3
            go_upto_region 11 with fail
            have hb4 : Below w2.heap.size w2 (wr.alloc (.cells #[.int .i64 y.th, .bool y.sh, .int .i64 y.fr, .int .i64 y.til] 68)) := hBq.out.alloc hzq _
            have hy4 : Blk (wr.alloc (.cells #[.int .i64 y.th, .bool y.sh, .int .i64 y.fr, .int .i64 y.til] 68)) wr.heap.size 68 [.int .i64 y.th, .bool y.sh, .int .i64 y.fr, .int .i64 y.til] := Blk.new wr _ _
            have hx4 : Blk (wr.alloc (.cells #[.int .i64 y.th, .bool y.sh, .int .i64 y.fr, .int .i64 y.til] 68)) wo.heap.size 68 [.int .i64 x.th, .bool x.sh, .int .i64 x.fr, .int .i64 x.til] := HC3.out.alloc _
            generalize wr.alloc (.cells #[.int .i64 y.th, .bool y.sh, .int .i64 y.fr, .int .i64 y.til] 68) = w4 at hb4 hy4 hx4 ⊢
            have hyl := hy4.lt
            have hxl := hx4.lt
            have hz4 := hb4.size
            have x0 : w4.cell? ⟨wo.heap.size, 0, none⟩ = some (.int .i64 x.th) := hx4.cell rfl
            have x1 : w4.cell? ⟨wo.heap.size, 1, none⟩ = some (.bool x.sh) := hx4.cell rfl
            have x2 : w4.cell? ⟨wo.heap.size, 2, none⟩ = some (.int .i64 x.fr) := hx4.cell rfl
            have x3 : w4.cell? ⟨wo.heap.size, 3, none⟩ = some (.int .i64 x.til) := hx4.cell rfl
            have y0 : w4.cell? ⟨wr.heap.size, 0, none⟩ = some (.int .i64 y.th) := hy4.cell rfl
            have y1 : w4.cell? ⟨wr.heap.size, 1, none⟩ = some (.bool y.sh) := hy4.cell rfl
            have y2 : w4.cell? ⟨wr.heap.size, 2, none⟩ = some (.int .i64 y.fr) := hy4.cell rfl
            have y3 : w4.cell? ⟨wr.heap.size, 3, none⟩ = some (.int .i64 y.til) := hy4.cell rfl
            have HX4 := Lib.hid hx4
            have HY4 := Lib.hid hy4
            have HB4 := Lib.hid hb4
            clear hx4 hy4 hb4 v0 v1 v2 v3
            go_cut [63] (fun s63 wc => s63 = .bool (clash x y) ∧ Hid (Below w2.heap.size w2 wc))
            case first =>
              obtain ⟨bx, hbx⟩ : ∃ bx, x.sh = bx := ⟨_, rfl⟩
              obtain ⟨bz, hbz⟩ : ∃ bz, y.sh = bz := ⟨_, rfl⟩
              obtain ⟨r1, hr1⟩ : ∃ r1, x.apart y = r1 := ⟨_, rfl⟩
              obtain ⟨r2, hr2⟩ : ∃ r2, y.apart x = r2 := ⟨_, rfl⟩
              rw [hbx] at x1
              rw [hbz] at y1
              have HX4' : Hid (Blk w4 wo.heap.size 68 [.int .i64 x.th, .bool bx, .int .i64 x.fr, .int .i64 x.til]) := by have := HX4.out; rw [hbx] at this; exact this
              have HY4' : Hid (Blk w4 wr.heap.size 68 [.int .i64 y.th, .bool bz, .int .i64 y.fr, .int .i64 y.til]) := by have := HY4.out; rw [hbz] at this; exact this
              have HCl : Hid (clash x y = (!(bx && bz) && (!r1 && !r2))) := by show _ = _; rw [← hbx, ← hbz, ← hr1, ← hr2]; rfl
              have ha1 : ∀ W, Calls Try.prog 36 #[.agg #[.int .i64 x.th, .bool bx, .int .i64 x.fr, .int .i64 x.til], .agg #[.int .i64 y.th, .bool bz, .int .i64 y.fr, .int .i64 y.til]] W (fun e w' => e = .returned (.bool r1) ∧ Below W.heap.size W w') := fun W => by rw [← hr1]; exact apart_any ⟨x.th, bx, x.fr, x.til⟩ ⟨y.th, bz, y.fr, y.til⟩ W
              have ha2 : ∀ W, Calls Try.prog 36 #[.agg #[.int .i64 y.th, .bool bz, .int .i64 y.fr, .int .i64 y.til], .agg #[.int .i64 x.th, .bool bx, .int .i64 x.fr, .int .i64 x.til]] W (fun e w' => e = .returned (.bool r2) ∧ Below W.heap.size W w') := fun W => by rw [← hr2]; exact apart_any ⟨y.th, bz, y.fr, y.til⟩ ⟨x.th, bx, x.fr, x.til⟩ W
              have HA1 := Lib.hid ha1
              have HA2 := Lib.hid ha2
              clear hbx hbz hr1 hr2 ha1 ha2 HX4 HY4 hF hq hltq hlt hne p1 p0 hbq
              cases bx <;> cases bz
              case true.true =>
                go_wp2_with fail
                go_meet
                exact ⟨by rw [HCl.out]; rfl, HB4.out⟩
              all_goals (
                go_wp2_with fail
                refine (HA1.out w4).mono ?_
                rintro e w5 ⟨rfl, hb5⟩
                have hz5 := hb5.size
                have X5 := HX4'.out.below hb5 hxl
                have Y5 := HY4'.out.below hb5 hyl
                have HB5 : Hid (Below w2.heap.size w2 w5) := HB4.out.trans (hb5.mono hz4)
                have x0 : w5.cell? ⟨wo.heap.size, 0, none⟩ = some (.int .i64 x.th) := X5.cell rfl
                have x1 : w5.cell? ⟨wo.heap.size, 1, none⟩ = some (.bool _) := X5.cell rfl
                have x2 : w5.cell? ⟨wo.heap.size, 2, none⟩ = some (.int .i64 x.fr) := X5.cell rfl
                have x3 : w5.cell? ⟨wo.heap.size, 3, none⟩ = some (.int .i64 x.til) := X5.cell rfl
                have y0 : w5.cell? ⟨wr.heap.size, 0, none⟩ = some (.int .i64 y.th) := Y5.cell rfl
                have y1 : w5.cell? ⟨wr.heap.size, 1, none⟩ = some (.bool _) := Y5.cell rfl
                have y2 : w5.cell? ⟨wr.heap.size, 2, none⟩ = some (.int .i64 y.fr) := Y5.cell rfl
                have y3 : w5.cell? ⟨wr.heap.size, 3, none⟩ = some (.int .i64 y.til) := Y5.cell rfl
                clear X5 Y5 hb5
                cases r1 with
                | true =>
                  go_wp2_with fail
                  go_meet
                  exact ⟨by rw [HCl.out]; rfl, HB5.out⟩
                | false =>
                  go_wp2_with fail
                  refine (HA2.out w5).mono ?_
                  rintro e w6 ⟨rfl, hb6⟩
                  have HB6 : Hid (Below w2.heap.size w2 w6) := HB5.out.trans (hb6.mono (by omega))
                  clear hb6
                  cases r2 with
                  | true =>
                    go_wp2_with fail
                    go_meet
                    exact ⟨by rw [HCl.out]; rfl, HB6.out⟩
                  | false =>
                    go_wp2_with fail
                    go_meet
                    exact ⟨by rw [HCl.out]; rfl, HB6.out⟩)
            case rest =>
              obtain ⟨rfl, hbc⟩ := hcut
              have hzc := hbc.out.size
              cases hcl9 : clash x y with
              | true =>
                have HR9 : Hid (anyClash l' = true) := by
                  show _ = _
                  rw [← hD.out, HD2.out, anyClash, hF.out, HD3.out, List.any_cons, hcl9]
                  rfl
                go_wp2_with fail
                go_ret2
                refine ⟨by rw [holdsP, HR9.out]; rfl, HB1.out.trans ((HB2.out.trans (hbc.out.mono (by omega))).mono (by omega))⟩
              | false =>
                go_wp2_with fail
                go_roundg (gk - 1)
                case measure => omega
                case rel => exact ⟨q + 1, by omega, by go_num, hbc.out, by show _ = _; rw [hF.out, HD3.out, List.any_cons, hcl9]; rfl⟩
          · obtain rfl : q = l'.length - (j + 1) := by omega
            have hnil : l'.drop (j + 1 + (l'.length - (j + 1))) = [] := List.drop_of_length_le (by omega)
            have HN := Lib.hid hnil
            clear hnil
            go_wp2_with fail
            go_roundg (go - 1)
            case measure => omega
            case rel => exact ⟨j + 1, by omega, by go_num, hBt.out, by show _ = _; rw [← hD.out, HD2.out, anyClash, hF.out, HN.out]; rfl⟩
    · obtain rfl : j = l'.length := by omega
      have hcf : anyClash l' = false := by rw [← hD.out, List.drop_length]; rfl
      have HCF := Lib.hid hcf
      obtain ⟨w3, rfl⟩ : ∃ w3 : World, w3 = wr := ⟨_, rfl⟩
      obtain ⟨g3, rfl⟩ : ∃ g3 : Nat, g3 = gk := ⟨_, rfl⟩
      have hrr := HR1.out.below hB.out (by omega)
      have r0 : w3.cell? ⟨w.heap.size + 1, 0, none⟩ = some (.slice Ac calls.length kc) := hrr.cell rfl
      have HR3 := Lib.hid hrr
      have HB3 : Hid (Below w.heap.size w w3) := HB1.out.trans (hB.out.mono (by omega))
      have hrl3 := hrr.lt
      clear hcf hrr hD hj hlt
      go_wp2_with fail
      go_loopg [13, 69] calls.length (fun gk s13 i wq => ∃ (j : Nat) (A7 : Option Addr) (k7 : Nat) (o : List Cal), j + gk = calls.length ∧ i = .int .i64 j ∧ s13 = .slice A7 o.length k7 ∧ Hid (Below w3.heap.size w3 wq) ∧ Hid (wq.ownsRow w3.heap.size 62 9 s13 o.length (calVals o)) ∧ Hid (o ++ (calls.drop j).filter Cal.isTouch = calls.filter Cal.isTouch))
      case atStart => exact ⟨0, none, 0, [], by omega, rfl, rfl, Below.refl _ _, World.ownsRow_nil _ _ _ _, by show _ = _; simp⟩
      case round =>
        obtain ⟨j, A7, k7, o, hj, rfl, rfl, hB, hO7, hD⟩ := hrel
        by_cases hlt : j < calls.length
        · obtain ⟨x, hx⟩ := at_lt hlt
          have e1 : (j : Int) < calls.length := by omega
          have e0 : (0 : Int) ≤ j := by omega
          have hbw : Below w.heap.size w wr := HB3.out.trans (hB.out.mono (by omega))
          have hs := (HS.out.below hbw).2 (by omega)
          obtain ⟨b, f, hA, hbl, hcell⟩ := hs
          have v0 : wr.cell? ⟨b, f + j * 9, none⟩ = some (.int .i64 x.th) := by have := hcell (j * 9 + 0) _ (calVals_get hx 0 (by omega)); simpa using this
          have v1 : wr.cell? ⟨b, f + j * 9 + 1, none⟩ = some (.int .i64 x.op) := by have := hcell (j * 9 + 1) _ (calVals_get hx 1 (by omega)); rw [← Nat.add_assoc] at this; exact this
          have v2 : wr.cell? ⟨b, f + j * 9 + 2, none⟩ = some (.int .i64 x.arg) := by have := hcell (j * 9 + 2) _ (calVals_get hx 2 (by omega)); rw [← Nat.add_assoc] at this; exact this
          have v3 : wr.cell? ⟨b, f + j * 9 + 3, none⟩ = some (.int .i64 x.dat) := by have := hcell (j * 9 + 3) _ (calVals_get hx 3 (by omega)); rw [← Nat.add_assoc] at this; exact this
          have v4 : wr.cell? ⟨b, f + j * 9 + 4, none⟩ = some (.int .i64 x.beg) := by have := hcell (j * 9 + 4) _ (calVals_get hx 4 (by omega)); rw [← Nat.add_assoc] at this; exact this
          have v5 : wr.cell? ⟨b, f + j * 9 + 5, none⟩ = some (.int .i64 x.fin) := by have := hcell (j * 9 + 5) _ (calVals_get hx 5 (by omega)); rw [← Nat.add_assoc] at this; exact this
          have v6 : wr.cell? ⟨b, f + j * 9 + 6, none⟩ = some (.int .i64 x.pt) := by have := hcell (j * 9 + 6) _ (calVals_get hx 6 (by omega)); rw [← Nat.add_assoc] at this; exact this
          have v7 : wr.cell? ⟨b, f + j * 9 + 7, none⟩ = some (.int .i64 x.ak) := by have := hcell (j * 9 + 7) _ (calVals_get hx 7 (by omega)); rw [← Nat.add_assoc] at this; exact this
          have v8 : wr.cell? ⟨b, f + j * 9 + 8, none⟩ = some (.int .i64 x.av) := by have := hcell (j * 9 + 8) _ (calVals_get hx 8 (by omega)); rw [← Nat.add_assoc] at this; exact this
          have hzr := hB.out.size
          have hD2 : calls.drop j = x :: calls.drop (j + 1) := drop_cons hx
          have HD2 := Lib.hid hD2
          have hol : o.length ≤ calls.length := by
            have h9 := congrArg List.length hD.out
            rw [List.length_append] at h9
            have := List.length_filter_le Cal.isTouch calls
            omega
          subst hA
          have hbe : b < wr.heap.size := by omega
          clear hcell hx hbw hD2
          by_cases c1 : x.op = 124
          · have g1 : (x.op == 124) = true := by simp [c1]
            by_cases c2 : x.fin = -1
            · have f1 : (x.fin != -1) = false := by simp [c2]
              have HI : Hid (x.isTouch = false) := by show _ = _; simp [Cal.isTouch, c2]
              go_wp2_with fail
              go_roundg (gk - 1)
              case measure => omega
              case rel => exact ⟨j + 1, A7, k7, o, by omega, by go_num, rfl, hB.out.alloc hzr _, hO7.out.below ((Below.refl _ _).alloc (Nat.le_refl _) _), by show _ = _; rw [← hD.out, HD2.out, List.filter_cons_of_neg (by rw [HI.out]; simp)]⟩
            · have f1 : (x.fin != -1) = true := by simp [c2]
              have HI : Hid (x.isTouch = true) := by show _ = _; simp [Cal.isTouch, c1, c2]
              go_upto_region 20 with fail
              have hB4 : Hid (Below w3.heap.size w3 (wr.alloc (.cells #[.int .i64 x.th, .int .i64 124, .int .i64 x.arg, .int .i64 x.dat, .int .i64 x.beg, .int .i64 x.fin, .int .i64 x.pt, .int .i64 x.ak, .int .i64 x.av] 62))) := hB.out.alloc hzr _
              have hc4 : Blk (wr.alloc (.cells #[.int .i64 x.th, .int .i64 124, .int .i64 x.arg, .int .i64 x.dat, .int .i64 x.beg, .int .i64 x.fin, .int .i64 x.pt, .int .i64 x.ak, .int .i64 x.av] 62)) wr.heap.size 62 [.int .i64 x.th, .int .i64 124, .int .i64 x.arg, .int .i64 x.dat, .int .i64 x.beg, .int .i64 x.fin, .int .i64 x.pt, .int .i64 x.ak, .int .i64 x.av] := Blk.new wr _ _
              have HO4 : Hid ((wr.alloc (.cells #[.int .i64 x.th, .int .i64 124, .int .i64 x.arg, .int .i64 x.dat, .int .i64 x.beg, .int .i64 x.fin, .int .i64 x.pt, .int .i64 x.ak, .int .i64 x.av] 62)).ownsRow w3.heap.size 62 9 (.slice A7 o.length k7) o.length (calVals o)) := hO7.out.alloc _
              generalize wr.alloc (.cells #[.int .i64 x.th, .int .i64 124, .int .i64 x.arg, .int .i64 x.dat, .int .i64 x.beg, .int .i64 x.fin, .int .i64 x.pt, .int .i64 x.ak, .int .i64 x.av] 62) = w4 at hB4 hc4 HO4 ⊢
              have hzt := hB4.out.size
              have uth : w4.cell? ⟨wr.heap.size, 0, none⟩ = some (.int .i64 x.th) := hc4.cell rfl
              have uop : w4.cell? ⟨wr.heap.size, 1, none⟩ = some (.int .i64 124) := hc4.cell rfl
              have uarg : w4.cell? ⟨wr.heap.size, 2, none⟩ = some (.int .i64 x.arg) := hc4.cell rfl
              have udat : w4.cell? ⟨wr.heap.size, 3, none⟩ = some (.int .i64 x.dat) := hc4.cell rfl
              have ubeg : w4.cell? ⟨wr.heap.size, 4, none⟩ = some (.int .i64 x.beg) := hc4.cell rfl
              have ufin : w4.cell? ⟨wr.heap.size, 5, none⟩ = some (.int .i64 x.fin) := hc4.cell rfl
              have upt : w4.cell? ⟨wr.heap.size, 6, none⟩ = some (.int .i64 x.pt) := hc4.cell rfl
              have uak : w4.cell? ⟨wr.heap.size, 7, none⟩ = some (.int .i64 x.ak) := hc4.cell rfl
              have uav : w4.cell? ⟨wr.heap.size, 8, none⟩ = some (.int .i64 x.av) := hc4.cell rfl
              have HXe : Hid ([.int .i64 x.th, .int .i64 124, .int .i64 x.arg, .int .i64 x.dat, .int .i64 x.beg, .int .i64 x.fin, .int .i64 x.pt, .int .i64 x.ak, .int .i64 x.av] = calL x) := by show _ = _; rw [← c1]
              clear hc4 v0 v1 v2 v3 v4 v5 v6 v7 v8
              go_wp2_with (at_builtin; go_must (refine wpList_app _ rfl _ _ 35 rfl w3.heap.size 62 i1 (.agg #[.int .i64 0, .int .i64 0, .int .i64 0, .int .i64 0, .int .i64 0, .int .i64 0, .int .i64 0, .int .i64 0, .int .i64 0]) 9 72 Try.underlying35 hi1 hi1z hi1s hi1b rfl (by decide) (.slice A7 o.length k7) o.length (calVals o) rfl (HO4.out.alloc _) (w4.heap.size + 1) (some ⟨w4.heap.size, 0, none⟩) 1 1 [.int .i64 x.th, .int .i64 124, .int .i64 x.arg, .int .i64 x.dat, .int .i64 x.beg, .int .i64 x.fin, .int .i64 x.pt, .int .i64 x.ak, .int .i64 x.av] rfl (((Blk.new w4 62 _).sl rfl).up (by simp)) (by rw [HXe.out]; exact calL_one x) (o.length + 1) rfl _ rfl _ rfl (by simp only [maxLen]; omega) (by omega) (by rw [World.size_alloc]; omega) ?_; intro A9 k9 w9 hown9 hg9 hat9 hk9 hk9'))
              go_roundg (gk - 1)
              case measure => omega
              case rel =>
                refine ⟨j + 1, A9, k9, o ++ [x], by omega, by go_num, by rw [List.length_append]; rfl, ?_, ?_, ?_⟩
                · exact (hB4.out.alloc hzt _).grown hg9 (by rw [World.size_alloc]; omega) (fun r hr => (HO4.out.lt r hr).1)
                · show World.ownsRow _ _ _ _ _ _ _
                  rw [← calVals_snoc, List.length_append, ← HXe.out]
                  exact hown9
                · show _ = _
                  rw [← hD.out, HD2.out, List.filter_cons_of_pos (by exact HI.out), List.append_assoc]
                  rfl
          · have g1 : (x.op == 124) = false := by simp [c1]
            have HI : Hid (x.isTouch = false) := by show _ = _; simp [Cal.isTouch, c1]
            go_wp2_with fail
            go_roundg (gk - 1)
            case measure => omega
            case rel => exact ⟨j + 1, A7, k7, o, by omega, by go_num, rfl, hB.out.alloc hzr _, hO7.out.below ((Below.refl _ _).alloc (Nat.le_refl _) _), by show _ = _; rw [← hD.out, HD2.out, List.filter_cons_of_neg (by rw [HI.out]; simp)]⟩
        · obtain rfl : j = calls.length := by omega
          have hO9 : o = calls.filter Cal.isTouch := by have := hD.out; rw [List.drop_length, List.filter_nil, List.append_nil] at this; exact this
          have hol : o.length ≤ 1954687338211 := by rw [hO9]; have := List.length_filter_le Cal.isTouch calls; omega
          obtain ⟨w4, rfl⟩ : ∃ w4 : World, w4 = wr := ⟨_, rfl⟩
          obtain ⟨g4, rfl⟩ : ∃ g4 : Nat, g4 = gk := ⟨_, rfl⟩
          have hcall := HT.out w4 w3.heap.size A7 k7 (by have := hO7.out; rw [hO9] at this; exact this)
          rw [← hO9] at hcall
          have HC := Lib.hid hcall
          have HZ := Lib.hid hO7.out
          have hz4 := hB.out.size
          clear hcall hO9 hO7 hlt hj hD
          go_wp2_with fail
          refine HC.out.mono ?_
          rintro e w5 ⟨rfl, ho5, hg5⟩
          have hB5 : Hid (Below w3.heap.size w3 w5) := hB.out.grown hg5 hz4 (fun r hr => (HZ.out.lt r hr).1)
          have htl : t'.length = o.length := calS_len w5 ho5
          rw [← htl] at ho5 hol ⊢
          have HSt := Lib.hid (Sl.of_own ho5)
          have hz5 := hB5.out.size
          have HR5 := Lib.hid (HR3.out.below hB5.out hrl3)
          clear ho5 hg5 htl HC HZ
          go_wp2_with fail
          go_loopg [90] t'.length (fun gk i wq => ∃ j : Nat, j + gk = t'.length ∧ i = .int .i64 j ∧ Hid (Below w5.heap.size w5 wq) ∧ Hid (countOk j (t'.drop j) = countOk 0 t'))
          case atStart => exact ⟨0, by omega, rfl, Below.refl _ _, rfl⟩
          case round =>
            obtain ⟨j, hj, rfl, hBj, hD⟩ := hrel
            have hzr := hBj.out.size
            have HBw : Hid (Below w.heap.size w wr) := HB3.out.trans ((hB5.out.trans (hBj.out.mono hz5)).mono (by omega))
            by_cases hlt : j < t'.length
            · obtain ⟨x, hx⟩ := at_lt hlt
              have e1 : (j : Int) < t'.length := by omega
              have e0 : (0 : Int) ≤ j := by omega
              have hs := (HSt.out.below hBj.out).2 (by omega)
              obtain ⟨b, f, hA, hbl, hcell⟩ := hs
              have v0 : wr.cell? ⟨b, f + j * 9, none⟩ = some (.int .i64 x.th) := by have := hcell (j * 9 + 0) _ (calVals_get hx 0 (by omega)); simpa using this
              have v1 : wr.cell? ⟨b, f + j * 9 + 1, none⟩ = some (.int .i64 x.op) := by have := hcell (j * 9 + 1) _ (calVals_get hx 1 (by omega)); rw [← Nat.add_assoc] at this; exact this
              have v2 : wr.cell? ⟨b, f + j * 9 + 2, none⟩ = some (.int .i64 x.arg) := by have := hcell (j * 9 + 2) _ (calVals_get hx 2 (by omega)); rw [← Nat.add_assoc] at this; exact this
              have v3 : wr.cell? ⟨b, f + j * 9 + 3, none⟩ = some (.int .i64 x.dat) := by have := hcell (j * 9 + 3) _ (calVals_get hx 3 (by omega)); rw [← Nat.add_assoc] at this; exact this
              have v4 : wr.cell? ⟨b, f + j * 9 + 4, none⟩ = some (.int .i64 x.beg) := by have := hcell (j * 9 + 4) _ (calVals_get hx 4 (by omega)); rw [← Nat.add_assoc] at this; exact this
              have v5 : wr.cell? ⟨b, f + j * 9 + 5, none⟩ = some (.int .i64 x.fin) := by have := hcell (j * 9 + 5) _ (calVals_get hx 5 (by omega)); rw [← Nat.add_assoc] at this; exact this
              have v6 : wr.cell? ⟨b, f + j * 9 + 6, none⟩ = some (.int .i64 x.pt) := by have := hcell (j * 9 + 6) _ (calVals_get hx 6 (by omega)); rw [← Nat.add_assoc] at this; exact this
              have v7 : wr.cell? ⟨b, f + j * 9 + 7, none⟩ = some (.int .i64 x.ak) := by have := hcell (j * 9 + 7) _ (calVals_get hx 7 (by omega)); rw [← Nat.add_assoc] at this; exact this
              have v8 : wr.cell? ⟨b, f + j * 9 + 8, none⟩ = some (.int .i64 x.av) := by have := hcell (j * 9 + 8) _ (calVals_get hx 8 (by omega)); rw [← Nat.add_assoc] at this; exact this
              have hD2 : t'.drop j = x :: t'.drop (j + 1) := drop_cons hx
              have HD2 := Lib.hid hD2
              subst hA
              have hbe : b < wr.heap.size := by omega
              have nq := ans_neq x.ak x.av 2 j
              have gq := ans_guard
              clear hcell hx hD2
              cases hq : (x.ak == 2 && x.av == (j : Int)) with
              | true =>
                rw [hq] at nq
                have HQ := Lib.hid hq
                clear hq
                go_wp2_with fail
                go_roundg (gk - 1)
                case measure => omega
                case rel => exact ⟨j + 1, by omega, by go_num, hBj.out.alloc hzr _, by show _ = _; rw [← hD.out, HD2.out, countOk, HQ.out]; rfl⟩
              | false =>
                rw [hq] at nq
                have HQ := Lib.hid hq
                have HR9 : Hid (countOk 0 t' = false) := by show _ = _; rw [← hD.out, HD2.out, countOk, hq]; rfl
                clear hq
                go_wp2_with fail
                go_ret2
                exact ⟨by rw [holdsP, HCF.out, HR9.out]; rfl, HBw.out.alloc (by omega) _⟩
            · obtain rfl : j = t'.length := by omega
              have HR9 : Hid (countOk 0 t' = true) := by show _ = _; rw [← hD.out, List.drop_length]; rfl
              have hrr := HR5.out.below hBj.out (by omega)
              have r3 : wr.cell? ⟨w.heap.size + 1, 3, none⟩ = some (.slice Aw words.length kw) := hrr.cell rfl
              have hww := HW.out.below HBw.out
              have uw : IntKind.u64.wrap (t'.length : Int) = t'.length := by simp [IntKind.wrap, IntKind.bits, IntKind.signed]; omega
              have HP : Hid (holdsP l' t' words = wordOk words t'.length) := by show _ = _; rw [holdsP, HCF.out, HR9.out]; rfl
              clear hrr HR9 hD
              cases words with
              | nil =>
                go_wp2_with fail
                go_ret2
                exact ⟨by rw [HP.out]; rfl, HBw.out⟩
              | cons v r =>
                obtain ⟨b, f, hA, hbl, hcell⟩ := hww.2 (by simp)
                have v0 : wr.cell? ⟨b, f + 0, none⟩ = some (.int .u64 v) := hcell 0 _ rfl
                rw [Nat.add_zero] at v0
                subst hA
                have p0 : (0 : Int) < ((v :: r).length : Nat) := by simp
                have p1 : 0 < (v :: r).length := by simp
                have p2 : decide ((0 : Int) < ((v :: r).length : Nat)) = true := decide_eq_true p0
                have hbe : b < wr.heap.size := by have := HBw.out.size; omega
                generalize (v :: r).length = wn at *
                have HW' : Hid (wordOk (v :: r) t'.length = (v == (t'.length : Int))) := rfl
                clear hww hcell
                cases hv : (v == (t'.length : Int)) with
                | true =>
                  have HV := Lib.hid hv
                  go_wp2_with fail
                  go_ret2
                  exact ⟨by rw [HP.out, HW'.out, HV.out]; rfl, HBw.out⟩
                | false =>
                  have HV := Lib.hid hv
                  go_wp2_with fail
                  go_ret2
                  exact ⟨by rw [HP.out, HW'.out, HV.out]; rfl, HBw.out⟩
end Go.Proofs.Ytjnmlgfkiebkgaa
