/-
  ConsoleLoads: the law's walk.
-/
import Derived.Test.YtgbopmgeicokoaaRLd
import Derived.Test.YtgbopmgeicokoaaSavLaw
namespace Go.Proofs.Ytgbopmgeicokoaa
open Go.RowKit

theorem wpList_load_on {P : Program} {ops : Array Oper} {rest : List Oper} {o : Oper} {a : Act} {w : World} {Q : Exit → Act → World → Prop} (hw : Region.wanted o (yielded ops a.tmps) = true) (ty : TypeId) (x : Operand) (ho : o.op = .load ty x)
    (g : Nat) (hx : a.eval x = .pointer (some ⟨g, 0, none⟩)) (t : TypeId) (cs : Array Value) (fr : Nat × Nat) (d : TypeDesc) (hg : w.heap[g]? = some (.cells cs t fr))
    (hu : P.underlying ty = some d) (hd : (match d with | .struct _ | .array _ _ => true | _ => false) = true) (hi : (P.info? ty).map (·.size) = some cs.size)
    (h : wpList P ops Q rest (a.put o.dst (.agg cs)) w) : wpList P ops Q (o :: rest) a w :=
  wpList_step fun K hK => by
    simp only [hw, if_true]
    exact wp_load_row ty x ho g hx t cs fr d hg hu hd hi (hK _ _ h)
theorem loadP_many (l : List Nat) : (loadP l).2.2.length ≤ 65536 := by
  have hT : ∀ kk ns n s, (tailL kk ns n (mvsG cntS n s)).2.2.length ≤ 65536 := fun kk ns n s => by
    unfold tailL
    split
    · exact Nat.zero_le _
    · split
      · exact Nat.zero_le _
      · rename_i h
        have h9 : sesErr (madeS kk ns) n = 0 := by
          by_cases h0 : sesErr (madeS kk ns) n = 0
          · exact h0
          · exact absurd h0 h
        have := (sesErr_ok h9).2
        show (mvsG cntS n s).1.length ≤ 65536
        rw [mvsG_len]
        exact this
  unfold loadP
  split
  · exact Nat.zero_le _
  · dsimp only
    split
    · exact Nat.zero_le _
    · exact hT _ _ _ _
theorem own_mvs {w : World} {B N k : Nat} {A : Option Addr} {ms : List Mv} (h : w.ownsRow B 95 4 (.slice A N k) N (mvVals ms)) : MvsAt w w.heap.size A N k ms := by
  obtain ⟨A', k', he, h1, h2⟩ := own_form h
  injection he with _ _ hk
  subst hk
  exact ⟨Sl.of_own h, h1, h2⟩
theorem own_blk4 {w : World} {B N k : Nat} {A : Option Addr} {L : List Value} (h : w.ownsRow B 95 4 (.slice A N k) N L) (hN : 0 < N) :
    ∃ g cs, A = some ⟨g, 0, none⟩ ∧ B ≤ g ∧ Blk w g 95 cs ∧ cs.length = k * 4 ∧ N ≤ k ∧ k ≤ maxLen := by
  rcases h.2 with ⟨_, h0⟩ | ⟨g, cap, cur, hv, hB, hg, h1, h2, h3, h4⟩
  · omega
  · injection hv with hA _ hk
    subst hA hk
    refine ⟨g, cur.toList, rfl, hB, ?_, ?_, h1, h2⟩
    · unfold Blk
      rw [hg]
    · simpa using h3
theorem Blk.own4 {w : World} {g B N k : Nat} {cs : List Value} (h : Blk w g 95 cs) (hl : cs.length = k * 4) (hN : N ≤ k) (hk : k ≤ maxLen) (hB : B ≤ g) : w.ownsRow B 95 4 (.slice (some ⟨g, 0, none⟩) N k) N (cs.take (N * 4)) :=
  ⟨by rw [List.length_take]; omega, Or.inr ⟨g, k, cs.toArray, rfl, hB, h, hN, hk, by simp [hl], by simp⟩⟩
theorem _root_.Go.World.ownsRow.kept' {w w' : World} {base : Nat} {e : TypeId} {size n : Nat} {v : Value} {xs : List Value} {row : Option Nat} (h : w.ownsRow base e size v n xs) (hg : w.grownBy w' row) (hne : ∀ x, v.ownBlock = some x → row = some x → False) : w'.ownsRow base e size v n xs := by
  obtain ⟨h1, h2⟩ := h
  refine ⟨h1, ?_⟩
  rcases h2 with h2 | ⟨g, cap, cur, hv, hb, hh, r⟩
  · exact Or.inl h2
  · refine Or.inr ⟨g, cap, cur, hv, hb, ?_, r⟩
    rw [hg.block g (Array.getElem?_eq_some_iff.1 hh).1 (fun he => hne g (by rw [hv]; rfl) he.symm)]
    exact hh

set_option maxRecDepth 100000 in
set_option maxHeartbeats 8000000 in
theorem law_loads (A : Option Addr) (n k : Nat) (l : List Nat) (w : World) (h : Sl w w.heap.size 1 A n (u8s l)) (hn : n ≤ k ∧ k ≤ maxLen) (hl : ∀ x ∈ l, x < 256) (hb : n ≤ 140737488351232) :
    Calls Try.prog 8 #[.slice A n k] w (BoolR true w) := by
  obtain ⟨i1, hi1, hi1z, hi1s, hi1b⟩ := info_parts info_u8
  obtain ⟨i2, hi2, hi2z, hi2s, hi2b⟩ := info_parts info_move
  have hlen : l.length = n := by have := h.1; rw [u8s_len] at this; omega
  have HSl := Lib.hid h
  have HL8 := Lib.hid hl
  have HLen := Lib.hid hlen
  have HN := Lib.hid hn
  clear h hn hl hlen
  go_enter Try.func8, Try.ntmps8
  go_wp2_with (at_builtin; go_must (refine wpList_app _ rfl _ _ 77 rfl w.heap.size 5 i1 (.int .u8 0) 1 1 Try.underlying77 hi1 hi1z hi1s hi1b rfl (by decide) (.slice none 0 0) 0 [] rfl (World.ownsRow_nil _ _ _ _) w.heap.size A n k (u8s l) rfl HSl.out u8s_one n (by omega) (u8s l) rfl none rfl (by simp only [maxLen]; omega) (by omega) (Nat.le_refl _) ?_; intro A1 k1 w1 hown1 hg1 hat1 hk3 hk4))
  have HK1 := Lib.hid hown1
  have HB1 := Lib.hid (show Below w.heap.size w w1 from ⟨hg1.os, hg1.tape, hg1.output, hg1.size, fun i hi => hg1.block i hi (by simp)⟩)
  have hz1 := hg1.size
  clear hown1 hg1 hat1 hk3 hk4
  obtain ⟨LD, hLD⟩ : ∃ L, L = loadP l := ⟨_, rfl⟩
  have HLD := Lib.hid hLD
  have hN6 : LD.2.2.length ≤ 65536 := by rw [hLD]; exact loadP_many l
  have HP : Hid (∀ W, Below w.heap.size w W → Calls Try.prog 39 #[.slice A n k] W (LdR LD W)) := fun W hB => by
    rw [hLD]
    exact pload_any A n k l W ((HSl.out.below hB).up hB.size) HN.out HL8.out
  have HR : Hid (∀ W, Below w.heap.size w W → Calls Try.prog 40 #[.slice A n k] W (LdR LD W)) := fun W hB => by
    rw [hLD, load_eq]
    exact rload_any A n k l W ((HSl.out.below hB).up hB.size) HN.out HL8.out
  clear hLD
  obtain ⟨er, SS, ms⟩ := LD
  have hN6' : ms.length ≤ 65536 := hN6
  obtain ⟨N, hN⟩ : ∃ N, N = ms.length := ⟨_, rfl⟩
  have HNl := Lib.hid hN
  rw [← hN] at hN6'
  clear hN6 hN
  go_wp2_with fail
  refine (HP.out _ HB1.out).mono ?_
  rintro e w2 ⟨A2, k2, rfl, hO2, hb2⟩
  have hO2' : w2.ownsRow w1.heap.size 95 4 (.slice A2 N k2) N (mvVals ms) := by rw [HNl.out]; exact hO2
  have HO2 := Lib.hid hO2'
  have HB2 := Lib.hid (HB1.out.trans (hb2.mono hz1))
  have HK2 := Lib.hid (HK1.out.below hb2)
  have hz2 := hb2.size
  rw [show (er, SS, ms).2.2.length = N from HNl.out.symm]
  clear hO2 hO2' hb2
  go_upto_region 3 with fail
  have HS3 : Hid (Blk (w2.alloc (.cells (sesL SS (.slice A2 N k2)).toArray 76)) w2.heap.size 76 (sesL SS (.slice A2 N k2))) := Blk.new _ _ _
  have HO3 := Lib.hid (HO2.out.alloc (.cells (sesL SS (.slice A2 N k2)).toArray 76))
  have HK3 := Lib.hid (HK2.out.alloc (.cells (sesL SS (.slice A2 N k2)).toArray 76))
  have HB3 := Lib.hid (HB2.out.alloc HB2.out.size (.cells (sesL SS (.slice A2 N k2)).toArray 76))
  have hz3 : (w2.alloc (.cells (sesL SS (.slice A2 N k2)).toArray 76)).heap.size = w2.heap.size + 1 := World.size_alloc ..
  generalize w2.alloc (.cells (sesL SS (.slice A2 N k2)).toArray 76) = w3 at HS3 HO3 HK3 HB3 hz3 ⊢
  obtain ⟨ga, hga⟩ : ∃ g, g = w2.heap.size := ⟨_, rfl⟩
  rw [← hga] at HS3 hz3 ⊢
  have HLo : Hid (∀ x, (Value.slice A2 N k2).ownBlock = some x → w1.heap.size ≤ x ∧ x < ga) := fun x hx => ⟨(HO2.out.lt x hx).1, by rw [hga]; exact (HO2.out.lt x hx).2⟩
  have hga1 : w1.heap.size ≤ ga := by omega
  clear hga HO2 HK2 HB2
  go_wp2_with fail
  refine (HR.out _ HB3.out).mono ?_
  rintro e w4 ⟨A4, k4, rfl, hO4, hb4⟩
  have hO4' : w4.ownsRow w3.heap.size 95 4 (.slice A4 N k4) N (mvVals ms) := by rw [HNl.out]; exact hO4
  have HO4 := Lib.hid hO4'
  have HD4 := Lib.hid hb4
  have hz4 := hb4.size
  rw [show (er, SS, ms).2.2.length = N from HNl.out.symm]
  clear hO4 hO4' hb4
  go_upto_region 4 with fail
  have HT5 : Hid (Blk (w4.alloc (.cells (sesL SS (.slice A4 N k4)).toArray 76)) w4.heap.size 76 (sesL SS (.slice A4 N k4))) := Blk.new _ _ _
  have HO5 := Lib.hid (HO4.out.alloc (.cells (sesL SS (.slice A4 N k4)).toArray 76))
  have HD5 := Lib.hid (HD4.out.alloc HD4.out.size (.cells (sesL SS (.slice A4 N k4)).toArray 76))
  have hz5 : (w4.alloc (.cells (sesL SS (.slice A4 N k4)).toArray 76)).heap.size = w4.heap.size + 1 := World.size_alloc ..
  generalize w4.alloc (.cells (sesL SS (.slice A4 N k4)).toArray 76) = w5 at HT5 HO5 HD5 hz5 ⊢
  obtain ⟨gb, hgb⟩ : ∃ g, g = w4.heap.size := ⟨_, rfl⟩
  rw [← hgb] at HT5 hz5 ⊢
  have HS5 := Lib.hid (HS3.out.below HD5.out HS3.out.lt)
  have HP5 := Lib.hid (HO3.out.below HD5.out)
  have HK5 := Lib.hid (HK3.out.below HD5.out)
  have HB5 := Lib.hid (HB3.out.trans (HD5.out.mono HB3.out.size))
  have hgb1 : w3.heap.size ≤ gb := by omega
  have b0 : ((er : Int) != er) = false := by simp
  clear hgb HO3 HK3 HS3 HO4 HD4
  have hga5 := HS5.out.lt
  have hgb5 := HT5.out.lt
  go_wp2_with fail
  refine (awake28_any _).mono ?_
  rintro e w6 ⟨rfl, hb6⟩
  have HE6 := Lib.hid hb6
  clear hb6
  go_wp2_with fail
  refine (bytes_same A A1 n k k1 l w6 HLen.out ((HSl.out.below (HB5.out.trans (HE6.out.mono HB5.out.size))).up (by have := HB5.out.size; have := HE6.out.size; omega)) (Sl.of_own (HK5.out.below HE6.out)) (by omega)).mono ?_
  rintro e w7 ⟨rfl, hb7⟩
  have HE7 := Lib.hid (HE6.out.trans (hb7.mono HE6.out.size))
  have HS7 := Lib.hid (HS5.out.below HE7.out hga5)
  have HT7 := Lib.hid (HT5.out.below HE7.out hgb5)
  have HP7 := Lib.hid (HP5.out.below HE7.out)
  have HQ7 := Lib.hid (HO5.out.below HE7.out)
  have HB7 := Lib.hid (HB5.out.trans (HE7.out.mono HB5.out.size))
  clear hb7 HE6
  go_wp2_with (first | (refine wpList_load_on rfl _ _ rfl ga rfl 76 _ (0, 0) _ HS7.out Try.underlying76 rfl size_ses ?_) | (refine wpList_load_on rfl _ _ rfl gb rfl 76 _ (0, 0) _ HT7.out Try.underlying76 rfl size_ses ?_))
  refine (samesession_any SS A2 A4 N k2 k4 ms w7 (own_mvs HP7.out) (own_mvs HQ7.out)).mono ?_
  rintro e w8 ⟨rfl, hb8⟩
  have HE8 := Lib.hid (HE7.out.trans (hb8.mono HE7.out.size))
  have HB8 := Lib.hid (HB5.out.trans (HE8.out.mono HB5.out.size))
  have hz8 := HE8.out.size
  clear hb8 HE7 HS7 HT7 HP7 HQ7 HB7
  by_cases h0 : er = 0
  case neg =>
    have b1 : (er != 0) = true := by simp [h0]
    clear h0 b0
    go_wp2_with fail
    go_ret
    exact ⟨rfl, HB8.out⟩
  subst h0
  clear b0
  go_wp2_with fail
  refine (HP.out _ HB8.out).mono ?_
  rintro e w9 ⟨A9, k9, rfl, hO9, hb9⟩
  have hO9' : w9.ownsRow w8.heap.size 95 4 (.slice A9 N k9) N (mvVals ms) := by rw [HNl.out]; exact hO9
  have HO9 := Lib.hid hO9'
  have HE9 := Lib.hid (HE8.out.trans (hb9.mono hz8))
  have hz9 := hb9.size
  rw [show ((0 : Int), SS, ms).2.2.length = N from HNl.out.symm]
  clear hO9 hO9' hb9
  go_upto_region 9 with fail
  have HU10 : Hid (Blk (w9.alloc (.cells (sesL SS (.slice A9 N k9)).toArray 76)) w9.heap.size 76 (sesL SS (.slice A9 N k9))) := Blk.new _ _ _
  have HV10 := Lib.hid (HO9.out.alloc (.cells (sesL SS (.slice A9 N k9)).toArray 76))
  have HE10 := Lib.hid (HE9.out.alloc HE9.out.size (.cells (sesL SS (.slice A9 N k9)).toArray 76))
  have hz10 : (w9.alloc (.cells (sesL SS (.slice A9 N k9)).toArray 76)).heap.size = w9.heap.size + 1 := World.size_alloc ..
  generalize w9.alloc (.cells (sesL SS (.slice A9 N k9)).toArray 76) = wx at HU10 HV10 HE10 hz10 ⊢
  obtain ⟨gc, hgc⟩ : ∃ g, g = w9.heap.size := ⟨_, rfl⟩
  rw [← hgc] at HU10 hz10 ⊢
  have HSx := Lib.hid (HS5.out.below HE10.out hga5)
  have HTx := Lib.hid (HT5.out.below HE10.out hgb5)
  have HPx := Lib.hid (HP5.out.below HE10.out)
  have HQx := Lib.hid (HO5.out.below HE10.out)
  have HBx := Lib.hid (HB5.out.trans (HE10.out.mono HB5.out.size))
  have HL4 : Hid (∀ x, (Value.slice A4 N k4).ownBlock = some x → w3.heap.size ≤ x ∧ x < wx.heap.size) := fun x hx => HQx.out.lt x hx
  have HL9 : Hid (∀ x, (Value.slice A9 N k9).ownBlock = some x → w8.heap.size ≤ x ∧ x < wx.heap.size) := fun x hx => HV10.out.lt x hx
  have hgc8 : w8.heap.size ≤ gc := by omega
  have hx5 := HE10.out.size
  have hwa : w.heap.size ≤ w1.heap.size := HB1.out.size
  clear hgc HO9 HE9 HE8 HE10 HP5 HS5 HT5 HO5 HK5 HD5 HP HR HB8
  go_wp2_with fail
  go_loopg [9] N (fun gk i wr => ∃ (j : Nat) (L : List Value), j + gk = N ∧ i = .int .i64 j ∧ Hid (wr.ownsRow w1.heap.size 95 4 (.slice A2 N k2) N L) ∧ Hid (wx.grownBy wr (Value.slice A2 N k2).ownBlock))
  case atStart => exact ⟨0, _, by omega, rfl, HPx, World.grownBy.refl _ _⟩
  case round =>
    obtain ⟨j, L, hj, rfl, HOw, HGr⟩ := hrel
    have HSr := Lib.hid (HSx.out.grown HGr.out (fun he => by have := (HLo.out _ he.symm).2; omega))
    have c16 : wr.cell? ⟨ga, 16, none⟩ = some (.slice A2 N k2) := HSr.out.cell rfl
    by_cases hlt : j < N
    · obtain ⟨g, cs, rfl, hg1, hBk, hcl, hNk, hkm⟩ := own_blk4 HOw.out (by omega)
      obtain ⟨u0, hu0⟩ := at_lt (show j * 4 < cs.length by omega)
      obtain ⟨u1, hu1⟩ := at_lt (show j * 4 + 1 < cs.length by omega)
      obtain ⟨u2, hu2⟩ := at_lt (show j * 4 + 2 < cs.length by omega)
      obtain ⟨u3, hu3⟩ := at_lt (show j * 4 + 3 < cs.length by omega)
      have x0 : wr.cell? ⟨g, j * 4, none⟩ = some u0 := hBk.cell hu0
      have x1 : wr.cell? ⟨g, j * 4 + 1, none⟩ = some u1 := hBk.cell hu1
      have x2 : wr.cell? ⟨g, j * 4 + 2, none⟩ = some u2 := hBk.cell hu2
      have x3 : wr.cell? ⟨g, j * 4 + 3, none⟩ = some u3 := hBk.cell hu3
      have f0 := hBk.frozen (j * 4)
      have f1 := hBk.frozen (j * 4 + 1)
      have f2 := hBk.frozen (j * 4 + 2)
      have f3 := hBk.frozen (j * 4 + 3)
      have HBk := Lib.hid hBk
      have HCl := Lib.hid hcl
      have e1 : (j : Int) < N := by omega
      have e0 : (0 : Int) ≤ j := by omega
      clear hBk hcl hu0 hu1 hu2 hu3
      go_wp2_with fail
      go_roundg (gk - 1)
      case measure => omega
      case rel =>
        refine ⟨j + 1, _, by omega, by go_num, Blk.own4 ((((HBk.out.set_ (j * 4) _).set_ (j * 4 + 1) _).set_ (j * 4 + 2) _).set_ (j * 4 + 3) _) (by simp only [List.length_set]; exact HCl.out) hNk hkm hg1, gb_set (gb_set (gb_set (gb_set HGr.out _ _) _ _) _ _) _ _⟩
    · obtain rfl : j = N := by omega
      obtain ⟨wl, rfl⟩ : ∃ wl : World, wl = wr := ⟨_, rfl⟩
      obtain ⟨go, rfl⟩ : ∃ go : Nat, go = gk := ⟨_, rfl⟩
      have hzl := HGr.out.size
      have HTr := Lib.hid (HTx.out.grown HGr.out (fun he => by have := (HLo.out _ he.symm).2; omega))
      have HUr := Lib.hid (HU10.out.grown HGr.out (fun he => by have := (HLo.out _ he.symm).2; omega))
      have HQr := Lib.hid (HQx.out.kept' HGr.out (fun x hx he => by have := (HLo.out _ he).2; have := (HL4.out x hx).1; omega))
      have HVr := Lib.hid (HV10.out.kept' HGr.out (fun x hx he => by have := (HLo.out _ he).2; have := (HL9.out x hx).1; omega))
      have HBr := Lib.hid (HBx.out.grown HGr.out HBx.out.size (fun x hx => by have := (HLo.out x hx).1; omega))
      have HLv : Hid (∀ x, (Value.slice A2 j k2).ownBlock = some x → w1.heap.size ≤ x ∧ (x < ga ∨ wx.heap.size ≤ x)) := fun x hx => ⟨(HLo.out x hx).1, Or.inl (HLo.out x hx).2⟩
      clear HGr
      go_wp2_with fail
      go_loopg [10] 70 (fun gk i wr => ∃ (q : Nat) (v : Value) (L : List Value), q + gk = 70 ∧ i = .int .i64 q ∧ wx.heap.size ≤ wr.heap.size ∧ Hid (Blk wr ga 76 (sesL SS v)) ∧ Hid (wr.ownsRow w1.heap.size 95 4 v (j + q) L) ∧
        Hid (∀ x, v.ownBlock = some x → w1.heap.size ≤ x ∧ (x < ga ∨ wx.heap.size ≤ x)) ∧ Hid (Blk wr gb 76 (sesL SS (.slice A4 j k4))) ∧ Hid (Blk wr gc 76 (sesL SS (.slice A9 j k9))) ∧
        Hid (wr.ownsRow w3.heap.size 95 4 (.slice A4 j k4) j (mvVals ms)) ∧ Hid (wr.ownsRow w8.heap.size 95 4 (.slice A9 j k9) j (mvVals ms)) ∧ Hid (Below w.heap.size w wr))
      case atStart => exact ⟨0, _, _, by omega, rfl, hzl, HSr, HOw, HLv, HTr, HUr, HQr, HVr, HBr⟩
      case round =>
        obtain ⟨q, v, L, hq, rfl, hzr, HS, HO, HV, HT, HU, HQ, HW, HB⟩ := hrel
        by_cases hlt2 : q < 70
        · have e1 : (q : Int) < 70 := by omega
          have e0 : (0 : Int) ≤ q := by omega
          have c16 : wr.cell? ⟨ga, 16, none⟩ = some v := HS.out.cell rfl
          have f16 := HS.out.frozen 16
          have hsg := HS.out.lt
          go_wp2_with (at_builtin; go_must (refine wpList_app _ rfl _ _ 74 rfl w1.heap.size 95 i2 (.agg #[.int .i64 0, .int .i64 0, .int .i64 0, .int .i64 0]) 4 32 Try.underlying74 hi2 hi2z hi2s hi2b rfl (by decide) v (j + q) _ rfl (HO.out.alloc _) (wr.heap.size + 1) (some ⟨wr.heap.size, 0, none⟩) 1 1 [.int .i64 (-8), .int .i64 0, .int .i64 0, .int .i64 0] rfl (((Blk.new wr 95 _).sl rfl).up (by simp)) (mv4_one _ _ _ _) ((j + q) + 1) rfl _ rfl _ rfl (by simp only [maxLen]; omega) (by omega) (by rw [World.size_alloc]; omega) ?_; intro A7 k7 u7 hown7 hg7 hat7 hk7 hk8; have hz7 := hg7.size; rw [World.size_alloc] at hz7 hat7; have HVs : Hid (∀ x, v.ownBlock = some x → x ≠ ga ∧ x ≠ gb ∧ x ≠ gc) := fun x hx => (by have := HV.out x hx; refine ⟨?_, ?_, ?_⟩ <;> omega); have HS7 := Lib.hid ((HS.out.alloc _).grown hg7 (fun he => (HVs.out _ he.symm).1 rfl)); have HT7 := Lib.hid ((HT.out.alloc _).grown hg7 (fun he => (HVs.out _ he.symm).2.1 rfl)); have HU7 := Lib.hid ((HU.out.alloc _).grown hg7 (fun he => (HVs.out _ he.symm).2.2 rfl)); have HQ7 := Lib.hid ((HQ.out.alloc _).kept' hg7 (fun x hx he => by have := HV.out _ he; have := HL4.out x hx; omega)); have HW7 := Lib.hid ((HW.out.alloc _).kept' hg7 (fun x hx he => by have := HV.out _ he; have := HL9.out x hx; omega)); have HB7 := Lib.hid ((HB.out.alloc HB.out.size _).grown hg7 (by rw [World.size_alloc]; have := HB.out.size; omega) (fun x hx => by have := HV.out x hx; omega)); have HV7 : Hid (∀ x, (Value.slice A7 ((j + q) + 1) k7).ownBlock = some x → w1.heap.size ≤ x ∧ (x < ga ∨ wx.heap.size ≤ x)) := (fun x hx => by rcases hat7 with h | h; exact HV.out x (h.symm.trans hx); rw [h] at hx; injection hx with hx; omega); have HO7 := Lib.hid hown7; have f16b := HS7.out.frozen 16; have c16b : u7.cell? ⟨ga, 16, none⟩ = some v := HS7.out.cell rfl; have hsg7 := HS7.out.lt; clear hown7 hg7 hat7 c16 f16))
          go_roundg (gk - 1)
          case measure => omega
          case rel =>
            have hset : u7.grownBy (u7.setCell ⟨ga, 16, none⟩ (.slice A7 ((j + q) + 1) k7)) (some ga) := gb_set (World.grownBy.refl u7 _) 16 _
            refine ⟨q + 1, .slice A7 ((j + q) + 1) k7, _, by omega, by go_num, by have := hset.size; omega, HS7.out.set_ 16 _, HO7.out.kept' hset (fun x hx he => by injection he with he; have := HV7.out x hx; omega), HV7.out, HT7.out.far (by dsimp only; omega) _, HU7.out.far (by dsimp only; omega) _,
              HQ7.out.kept' hset (fun x hx he => by injection he with he; have := HL4.out x hx; omega), HW7.out.kept' hset (fun x hx he => by injection he with he; have := HL9.out x hx; omega), HB7.out.setCell (p := ⟨ga, 16, none⟩) (by dsimp only; omega) _⟩
        · obtain rfl : q = 70 := by omega
          go_wp2_with (first | (refine wpList_load_on rfl _ _ rfl gc rfl 76 _ (0, 0) _ HU.out Try.underlying76 rfl size_ses ?_) | (refine wpList_load_on rfl _ _ rfl gb rfl 76 _ (0, 0) _ HT.out Try.underlying76 rfl size_ses ?_))
          refine (samesession_any SS A9 A4 j k9 k4 ms wr (own_mvs HW.out) (own_mvs HQ.out)).mono ?_
          rintro e wz ⟨rfl, hbz⟩
          go_wp2_with fail
          go_ret
          exact ⟨rfl, HB.out.trans (hbz.mono HB.out.size)⟩
end Go.Proofs.Ytgbopmgeicokoaa
