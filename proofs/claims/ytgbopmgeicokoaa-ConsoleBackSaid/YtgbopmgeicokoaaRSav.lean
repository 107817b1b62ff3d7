/-
  reclaimref28.Save.
-/
import Derived.Test.YtgbopmgeicokoaaPSav
namespace Go.Proofs.Ytgbopmgeicokoaa
open Go.RowKit

set_option maxRecDepth 100000 in
set_option maxHeartbeats 4000000 in
theorem rsave_any (s : Ses) (A : Option Addr) (n k : Nat) (ms : List Mv) (w : World) (h : MvsAt w w.heap.size A n k ms) (hok : ∀ x ∈ ms, MvOk x) (h0 : sesErr s n = 0) :
    Calls Try.prog 37 #[sesV s (.slice A n k)] w (NewB (imgB s ms) w) := by
  obtain ⟨i1, hi1, hi1z, hi1s, hi1b⟩ := info_parts info_u8
  have HLen := Lib.hid h.len
  have HOk := Lib.hid hok
  have HM := Lib.hid h
  have hnk := h.nk.1
  obtain ⟨hc, hn6⟩ := sesErr_ok h0
  have hk := cfg_kind hc
  obtain ⟨K, hK⟩ : ∃ K : Nat, s.kind = K := ⟨s.kind.toNat, by omega⟩
  have hK6 : K ≤ 6 := by omega
  have HNums := Lib.hid (cfg_nums hc)
  have HHd := Lib.hid (show hdrB s = [82, 67, 76, 1, K] by unfold hdrB; rw [hK]; rfl)
  have HKs := Lib.hid hK
  have HK := Lib.hid hk
  have b2 : IntKind.u8.wrap s.kind = (K : Int) := by rw [IntKind.wrap_u8']; omega
  have HB0 : Hid (Blk (w.alloc (.cells #[.int .i64 s.kind, .int .i64 s.cfg.threads, .int .i64 s.cfg.records, .int .i64 s.cfg.hazards, .int .i64 s.cfg.retire, .int .i64 s.cfg.cache, .int .i64 s.cfg.slots, .int .i64 s.cfg.buckets, .int .i64 s.rt, .int .i64 s.rc, .int .i64 s.dt, .int .i64 s.dr, .int .i64 s.lt, .int .i64 s.lk, .int .i64 s.st, .int .i64 s.sv, .slice A n k] 76)) w.heap.size 76 (sesL s (.slice A n k))) := Blk.new _ _ _
  have HW0 : Hid (Below w.heap.size w (w.alloc (.cells #[.int .i64 s.kind, .int .i64 s.cfg.threads, .int .i64 s.cfg.records, .int .i64 s.cfg.hazards, .int .i64 s.cfg.retire, .int .i64 s.cfg.cache, .int .i64 s.cfg.slots, .int .i64 s.cfg.buckets, .int .i64 s.rt, .int .i64 s.rc, .int .i64 s.dt, .int .i64 s.dr, .int .i64 s.lt, .int .i64 s.lk, .int .i64 s.st, .int .i64 s.sv, .slice A n k] 76))) := (Below.refl _ _).alloc (Nat.le_refl _) _
  clear h hok h0 hc hK hk
  go_enter Try.func37, Try.ntmps37
  go_upto_region 1 with fail
  generalize w.alloc (.cells #[.int .i64 s.kind, .int .i64 s.cfg.threads, .int .i64 s.cfg.records, .int .i64 s.cfg.hazards, .int .i64 s.cfg.retire, .int .i64 s.cfg.cache, .int .i64 s.cfg.slots, .int .i64 s.cfg.buckets, .int .i64 s.rt, .int .i64 s.rc, .int .i64 s.dt, .int .i64 s.dr, .int .i64 s.lt, .int .i64 s.lk, .int .i64 s.st, .int .i64 s.sv, .slice A n k] 76) = w1 at HB0 HW0 ⊢
  have hgl := HB0.out.lt
  have c0 : w1.cell? ⟨w.heap.size, 0, none⟩ = some (.int .i64 s.kind) := HB0.out.cell rfl
  go_upto_region 2 with fail
  have HB2 : Hid (Blk (w1.alloc (.cells #[.int .u8 82, .int .u8 67, .int .u8 76, .int .u8 1, .int .u8 K] 5)) w.heap.size 76 (sesL s (.slice A n k))) := HB0.out.alloc _
  have HV2 : Hid (Bts (w1.alloc (.cells #[.int .u8 82, .int .u8 67, .int .u8 76, .int .u8 1, .int .u8 K] 5)) w1.heap.size (.slice (some ⟨w1.heap.size, 0, none⟩) 5 5) (hdrB s)) := by
    rw [HHd.out]
    exact own_blk (Blk.new w1 5 [.int .u8 82, .int .u8 67, .int .u8 76, .int .u8 1, .int .u8 K]) rfl (Nat.le_refl _) (by simp [maxLen])
  have HW2 : Hid (Below w1.heap.size w1 (w1.alloc (.cells #[.int .u8 82, .int .u8 67, .int .u8 76, .int .u8 1, .int .u8 K] 5))) := (Below.refl _ _).alloc (Nat.le_refl _) _
  have hz2 : w1.heap.size < (w1.alloc (.cells #[.int .u8 82, .int .u8 67, .int .u8 76, .int .u8 1, .int .u8 K] 5)).heap.size := by simp
  generalize w1.alloc (.cells #[.int .u8 82, .int .u8 67, .int .u8 76, .int .u8 1, .int .u8 K] 5) = w2 at HB2 HV2 HW2 hz2 ⊢
  clear c0 b2
  obtain ⟨c0, c1, c2, c3, c4, c5, c6, c7, c8, c9, c10, c11, c12, c13, c14, c15, c16⟩ : w2.cell? ⟨w.heap.size, 0, none⟩ = some (.int .i64 s.kind) ∧ w2.cell? ⟨w.heap.size, 1, none⟩ = some (.int .i64 s.cfg.threads) ∧ w2.cell? ⟨w.heap.size, 2, none⟩ = some (.int .i64 s.cfg.records) ∧ w2.cell? ⟨w.heap.size, 3, none⟩ = some (.int .i64 s.cfg.hazards) ∧ w2.cell? ⟨w.heap.size, 4, none⟩ = some (.int .i64 s.cfg.retire) ∧ w2.cell? ⟨w.heap.size, 5, none⟩ = some (.int .i64 s.cfg.cache) ∧ w2.cell? ⟨w.heap.size, 6, none⟩ = some (.int .i64 s.cfg.slots) ∧ w2.cell? ⟨w.heap.size, 7, none⟩ = some (.int .i64 s.cfg.buckets) ∧ w2.cell? ⟨w.heap.size, 8, none⟩ = some (.int .i64 s.rt) ∧ w2.cell? ⟨w.heap.size, 9, none⟩ = some (.int .i64 s.rc) ∧ w2.cell? ⟨w.heap.size, 10, none⟩ = some (.int .i64 s.dt) ∧ w2.cell? ⟨w.heap.size, 11, none⟩ = some (.int .i64 s.dr) ∧ w2.cell? ⟨w.heap.size, 12, none⟩ = some (.int .i64 s.lt) ∧ w2.cell? ⟨w.heap.size, 13, none⟩ = some (.int .i64 s.lk) ∧ w2.cell? ⟨w.heap.size, 14, none⟩ = some (.int .i64 s.st) ∧ w2.cell? ⟨w.heap.size, 15, none⟩ = some (.int .i64 s.sv) ∧ w2.cell? ⟨w.heap.size, 16, none⟩ = some (.slice A n k) :=
    ⟨HB2.out.cell rfl, HB2.out.cell rfl, HB2.out.cell rfl, HB2.out.cell rfl, HB2.out.cell rfl, HB2.out.cell rfl, HB2.out.cell rfl, HB2.out.cell rfl, HB2.out.cell rfl, HB2.out.cell rfl, HB2.out.cell rfl, HB2.out.cell rfl, HB2.out.cell rfl, HB2.out.cell rfl, HB2.out.cell rfl, HB2.out.cell rfl, HB2.out.cell rfl⟩
  go_wp2_with fail
  refine (numbers_any s A n k _ HK.out).mono ?_
  rintro e w3 ⟨bp, kp, rfl, hbp, hP3, hb3, hkp, hkp2⟩
  have HP3 := Lib.hid hP3
  have HB3 := Lib.hid (HB2.out.below hb3 HB2.out.lt)
  have HV3 := Lib.hid (HV2.out.below hb3)
  have HW3 := Lib.hid (HW2.out.trans (hb3.mono HW2.out.size))
  have hz3 := hb3.size
  obtain ⟨L, hL⟩ : ∃ L, L = numsL s := ⟨_, rfl⟩
  have HL := Lib.hid hL
  rw [← hL] at hkp HP3 ⊢
  have hN7 : L.length ≤ 7 := by rw [hL]; exact HNums.out.1
  obtain ⟨v5, hv5⟩ : ∃ v5, v5 = Value.slice (some ⟨w1.heap.size, 0, none⟩) 5 5 := ⟨_, rfl⟩
  have HV5 := Lib.hid hv5
  have HO5 : Hid (v5.ownBlock = some w1.heap.size) := by rw [hv5]; rfl
  clear c0 c1 c2 c3 c4 c5 c6 c7 c8 c9 c10 c11 c12 c13 c14 c15 c16 hP3 hb3 hL hv5
  unfold maxLen at hkp2
  go_wp2_with fail
  go_loopg [3, 16] L.length (fun gk v0 i wr => ∃ (q : Nat) (v : Value) (pl : List Nat), q + gk = L.length ∧ i = .int .i64 q ∧ v = v0 ∧ Hid (Bts wr w1.heap.size v pl) ∧ Hid (Grew w3 wr v5 v) ∧ Hid (pl = hdrB s ++ flat Int.toNat (L.take q)))
  case atStart => exact ⟨0, _, hdrB s, by omega, rfl, rfl, HV3.out, by rw [HV5.out]; exact Grew.refl _ _, by rw [List.take_zero]; exact (List.append_nil _).symm⟩
  case round =>
    obtain ⟨q, v, pl, hq, rfl, rfl, HO, HG, HPl⟩ := hrel
    have hzr : w3.heap.size ≤ wr.heap.size := HG.out.gb.size
    by_cases hlt : q < L.length
    · obtain ⟨x, hx⟩ := at_lt hlt
      have hxb := HNums.out.2 x (by rw [← HL.out]; exact List.mem_of_getElem? hx)
      obtain ⟨X, hX⟩ : ∃ X : Nat, x = X := ⟨x.toNat, by omega⟩
      subst hX
      have ci : wr.cell? ⟨bp, q, none⟩ = some (.int .i64 X) := (HG.out.blk HP3.out (by rw [HO5.out]; intro he; injection he with he; omega)).cell (by simp [hx])
      have e1 : (q : Int) < L.length := by omega
      have e0 : (0 : Int) ≤ q := by omega
      have b3 : IntKind.u64.wrap (X : Int) = X := by rw [u64_wrap']; omega
      obtain ⟨cl, hcl⟩ : ∃ cl, cl = cnt X := ⟨_, rfl⟩
      have hpl : pl.length ≤ 100 := by rw [HPl.out, List.length_append, hdr_len]; have := flat_len Int.toNat (L.take q); rw [List.length_take] at this; omega
      have hcl11 : cl.length ≤ 11 := by rw [hcl]; exact cnt_len X
      have HCall : Hid (∀ W, Calls Try.prog 80 #[.int .u64 X] W (NewB cl W)) := fun W => by rw [hcl]; exact rcount_any X W (by omega)
      have HNl := Lib.hid (show pl ++ cl = hdrB s ++ flat Int.toNat (L.take (q + 1)) by rw [hcl, HPl.out, flat_snoc hx, List.append_assoc]; rfl)
      clear hx hxb hcl
      go_wp2_with fail
      refine (HCall.out _).mono ?_
      rintro e w5 ⟨A5, k5, rfl, hown5, hb5⟩
      have hz5 := hb5.size
      have HS5 := Lib.hid (Sl.of_own hown5)
      have HO8 := Lib.hid (HO.out.below hb5)
      clear hown5
      go_wp2_with (at_builtin; go_must (refine wpList_app _ rfl _ _ 77 rfl w1.heap.size 5 i1 (.int .u8 0) 1 1 Try.underlying77 hi1 hi1z hi1s hi1b rfl (by decide) v pl.length _ rfl (HO8.out) w5.heap.size A5 cl.length k5 (u8s cl) rfl HS5.out u8s_one (pl.length + cl.length) rfl _ rfl _ rfl (by simp only [maxLen]; omega) (by omega) (by omega) ?_; intro A7 k7 w7 hown7 hg7 hat7 hk7 hk8))
      go_roundg (gk - 1)
      case measure => omega
      case rel =>
        refine ⟨q + 1, _, pl ++ cl, by omega, by go_num, rfl, bts_app hown7 rfl, (HG.out.below hb5).trans ⟨hg7, ?_⟩, HNl.out⟩
        rcases hat7 with he | he
        · exact Or.inl he
        · exact Or.inr ⟨_, he, Nat.le_refl _⟩
    · obtain rfl : q = L.length := by omega
      have HPf := Lib.hid (show pl = hdrB s ++ flat Int.toNat (numsL s) by rw [HPl.out, List.take_of_length_le (Nat.le_refl _), HL.out])
      obtain ⟨w4, rfl⟩ : ∃ w4 : World, w4 = wr := ⟨_, rfl⟩
      have hpl : pl.length ≤ 100 := by rw [HPl.out, List.length_append, hdr_len]; have := flat_len Int.toNat (L.take L.length); rw [List.length_take] at this; omega
      have c16 : w4.cell? ⟨w.heap.size, 16, none⟩ = some (.slice A n k) := (HG.out.blk HB3.out (by rw [HO5.out]; intro he; injection he with he; omega)).cell rfl
      have b3 : IntKind.u64.wrap (n : Int) = n := by rw [u64_wrap']; omega
      obtain ⟨cl, hcl⟩ : ∃ cl, cl = cnt n := ⟨_, rfl⟩
      have hcl11 : cl.length ≤ 11 := by rw [hcl]; exact cnt_len n
      have HCall : Hid (∀ W, Calls Try.prog 80 #[.int .u64 n] W (NewB cl W)) := fun W => by rw [hcl]; exact rcount_any n W (by omega)
      have HNl := Lib.hid (show pl ++ cl = hdrB s ++ flat Int.toNat (numsL s) ++ cnt ms.length by rw [hcl, HPf.out, HLen.out])
      obtain ⟨nl, hnl⟩ : ∃ nl, nl = pl ++ cl := ⟨_, rfl⟩
      have hnll : nl.length ≤ 120 := by rw [hnl, List.length_append]; omega
      have HNN := Lib.hid hnl
      obtain ⟨go, rfl⟩ : ∃ go : Nat, go = gk := ⟨_, rfl⟩
      clear hcl hnl
      go_wp2_with fail
      refine (HCall.out _).mono ?_
      rintro e w5 ⟨A5, k5, rfl, hown5, hb5⟩
      have hz5 := hb5.size
      have HS5 := Lib.hid (Sl.of_own hown5)
      have HO8 := Lib.hid (HO.out.below hb5)
      clear hown5 c16
      go_wp2_with (at_builtin; go_must (refine wpList_app _ rfl _ _ 77 rfl w1.heap.size 5 i1 (.int .u8 0) 1 1 Try.underlying77 hi1 hi1z hi1s hi1b rfl (by decide) v pl.length _ rfl (HO8.out) w5.heap.size A5 cl.length k5 (u8s cl) rfl HS5.out u8s_one (pl.length + cl.length) rfl _ rfl _ rfl (by simp only [maxLen]; omega) (by omega) (by omega) ?_; intro A7 k7 w7 hown7 hg7 hat7 hk7 hk8; have c16 : w7.cell? ⟨w.heap.size, 16, none⟩ = some (.slice A n k) := (((HG.out.below hb5).trans ⟨hg7, (hat7.imp id (fun he => ⟨_, he, Nat.le_refl _⟩) : _ ∨ ∃ g, _)⟩ : Grew w3 w7 v5 (.slice A7 (pl.length + cl.length) k7)).blk HB3.out (by rw [HO5.out]; intro he; injection he with he; omega)).cell rfl))
      have HG7 : Hid (Grew w3 w7 v5 (.slice A7 (pl.length + cl.length) k7)) := (HG.out.below hb5).trans ⟨hg7, hat7.imp id (fun he => ⟨_, he, Nat.le_refl _⟩)⟩
      have HO7 : Hid (Bts w7 w1.heap.size (.slice A7 (pl.length + cl.length) k7) nl) := by rw [HNN.out]; exact bts_app hown7 rfl
      clear c16 hown7 hg7 hat7
      go_loopg [3, 36] n (fun gk v0 i wr => ∃ (j : Nat) (v : Value) (pl : List Nat), j + gk = n ∧ i = .int .i64 j ∧ v = v0 ∧ Hid (Bts wr w1.heap.size v pl) ∧ Hid (Grew w3 wr v5 v) ∧ Hid (pl = nl ++ flat sgn (mvsI (ms.take j))))
      case atStart => exact ⟨0, _, nl, by omega, rfl, rfl, HO7.out, HG7.out, by rw [List.take_zero]; exact (List.append_nil _).symm⟩
      case round =>
        obtain ⟨j, v, pl, hj, rfl, rfl, HO, HG, HPl⟩ := hrel
        have hzr : w3.heap.size ≤ wr.heap.size := HG.out.gb.size
        by_cases hlt2 : j < n
        · obtain ⟨x, hx⟩ := at_lt (by rw [HLen.out]; exact hlt2 : j < ms.length)
          have hW : Below w.heap.size w wr := (HW0.out.trans (HW3.out.mono HW0.out.size)).grown HG.out.gb (by have := HW0.out.size; have := HW3.out.size; omega) (fun g hg => by rw [HO5.out] at hg; injection hg with hg; omega)
          obtain ⟨b, o, rfl, hb, x0, x1, x2, x3⟩ := (HM.out.keep hW).at_ hx
          have e1 : (j : Int) < n := by omega
          have e0 : (0 : Int) ≤ j := by omega
          have HX := Lib.hid hx
          have HXo := Lib.hid (HOk.out x (List.mem_of_getElem? hx))
          have hpl0 : pl.length ≤ 120 + 44 * j := by
            rw [HPl.out, List.length_append]
            have h8 := flat_len sgn (mvsI (ms.take j))
            rw [mvsI_len, List.length_take] at h8
            omega
          obtain ⟨wo, rfl⟩ : ∃ wo : World, wo = wr := ⟨_, rfl⟩
          have HGa : Hid (Grew w3 (wo.alloc (.cells #[.int .i64 x.thread, .int .i64 x.op, .int .i64 x.arg, .int .i64 x.data] 95)) v5 v) := HG.out.below ((Below.refl _ _).alloc (Nat.le_refl _) _)
          have HO0 : Hid (Bts (wo.alloc (.cells #[.int .i64 x.thread, .int .i64 x.op, .int .i64 x.arg, .int .i64 x.data] 95)) w1.heap.size v pl) := HO.out.alloc _
          have HBa : Hid (Blk (wo.alloc (.cells #[.int .i64 x.thread, .int .i64 x.op, .int .i64 x.arg, .int .i64 x.data] 95)) wo.heap.size 95 (mvL x)) := Blk.new _ _ _
          have HNe : Hid (some wo.heap.size ≠ v.ownBlock) := fun he => by have := (HO.out.lt _ he.symm).2; omega
          have hB1 : w1.heap.size ≤ wo.heap.size := by omega
          clear hx
          go_upto_region 11 with fail
          generalize wo.alloc (.cells #[.int .i64 x.thread, .int .i64 x.op, .int .i64 x.arg, .int .i64 x.data] 95) = wa at HGa HO0 HBa ⊢
          clear x0 x1 x2 x3
          have HR0 : Hid (Grew wa wa v v) := Grew.refl _ _
          have hza : w1.heap.size ≤ wa.heap.size := by have := HGa.out.gb.size; omega
          have x0 : wa.cell? ⟨wo.heap.size, 0, none⟩ = some (.int .i64 x.thread) := (HR0.out.blk HBa.out HNe.out).cell rfl
          obtain ⟨cl0, hcl0⟩ : ∃ cl, cl = cnt (sgn x.thread) := ⟨_, rfl⟩
          have hcn0 : cl0.length ≤ 11 := by rw [hcl0]; exact cnt_len _
          have hsx0 := HXo.out x.thread (by simp)
          have hslt0 := sgn_lt hsx0
          have HCall0 : Hid (∀ W, Calls Try.prog 80 #[.int .u64 (sgn x.thread)] W (NewB cl0 W)) := fun W => by rw [hcl0]; exact rcount_any _ W hslt0
          obtain ⟨pl1, hp1⟩ : ∃ p, p = pl ++ cl0 := ⟨_, rfl⟩
          have hpl1 : pl1.length ≤ 131 + 44 * j := by rw [hp1, List.length_append]; omega
          have HP1 := Lib.hid hp1
          have HCL0 := Lib.hid hcl0
          clear hp1 hcl0 hslt0
          go_wp2_with fail
          refine (rsigned_any x.thread _ hsx0).mono ?_
          rintro e wq ⟨rfl, hwq⟩
          replace hwq := hwq.symm
          subst hwq
          go_wp2_with fail
          refine (HCall0.out _).mono ?_
          rintro e y0 ⟨C0, n0, rfl, hown0, hbb0⟩
          have hzy0 := hbb0.size
          have HS0 := Lib.hid (Sl.of_own hown0)
          have HT0 := Lib.hid (HO0.out.below hbb0)
          have hzb0 : w1.heap.size ≤ y0.heap.size := by have := HR0.out.gb.size; omega
          clear hown0 x0
          go_upto_region 12 with (at_builtin; go_must (refine wpList_app _ rfl _ _ 77 rfl w1.heap.size 5 i1 (.int .u8 0) 1 1 Try.underlying77 hi1 hi1z hi1s hi1b rfl (by decide) v pl.length _ rfl (HT0.out) y0.heap.size C0 cl0.length n0 (u8s cl0) rfl HS0.out u8s_one (pl.length + cl0.length) rfl _ rfl _ rfl (by simp only [maxLen]; omega) (by omega) (by omega) ?_; intro B1 m1 z1 hownz1 hgz1 hatz1 hkz1 hlz1))
          have hll1 : pl.length + cl0.length = pl1.length := by rw [HP1.out, List.length_append]
          rw [hll1] at hatz1 ⊢
          have HR1 : Hid (Grew wa z1 v (.slice B1 pl1.length m1)) := (HR0.out.below hbb0).trans ⟨hgz1, hatz1.imp id (fun he => ⟨_, he, Nat.le_refl _⟩)⟩
          have HO1 : Hid (Bts z1 w1.heap.size (.slice B1 pl1.length m1) pl1) := by
            have h9 := bts_app hownz1 rfl
            rw [hll1, ← HP1.out] at h9
            exact h9
          clear hownz1 hgz1 hatz1 hll1 hbb0
          have x1 : z1.cell? ⟨wo.heap.size, 1, none⟩ = some (.int .i64 x.op) := (HR1.out.blk HBa.out HNe.out).cell rfl
          obtain ⟨cl1, hcl1⟩ : ∃ cl, cl = cnt (sgn x.op) := ⟨_, rfl⟩
          have hcn1 : cl1.length ≤ 11 := by rw [hcl1]; exact cnt_len _
          have hsx1 := HXo.out x.op (by simp)
          have hslt1 := sgn_lt hsx1
          have HCall1 : Hid (∀ W, Calls Try.prog 80 #[.int .u64 (sgn x.op)] W (NewB cl1 W)) := fun W => by rw [hcl1]; exact rcount_any _ W hslt1
          obtain ⟨pl2, hp2⟩ : ∃ p, p = pl1 ++ cl1 := ⟨_, rfl⟩
          have hpl2 : pl2.length ≤ 142 + 44 * j := by rw [hp2, List.length_append]; omega
          have HP2 := Lib.hid hp2
          have HCL1 := Lib.hid hcl1
          clear hp2 hcl1 hslt1
          go_wp2_with fail
          refine (rsigned_any x.op _ hsx1).mono ?_
          rintro e wq ⟨rfl, hwq⟩
          replace hwq := hwq.symm
          subst hwq
          go_wp2_with fail
          refine (HCall1.out _).mono ?_
          rintro e y1 ⟨C1, n1, rfl, hown1, hbb1⟩
          have hzy1 := hbb1.size
          have HS1 := Lib.hid (Sl.of_own hown1)
          have HT1 := Lib.hid (HO1.out.below hbb1)
          have hzb1 : w1.heap.size ≤ y1.heap.size := by have := HR1.out.gb.size; omega
          clear hown1 x1
          go_upto_region 13 with (at_builtin; go_must (refine wpList_app _ rfl _ _ 77 rfl w1.heap.size 5 i1 (.int .u8 0) 1 1 Try.underlying77 hi1 hi1z hi1s hi1b rfl (by decide) (.slice B1 pl1.length m1) pl1.length _ rfl (HT1.out) y1.heap.size C1 cl1.length n1 (u8s cl1) rfl HS1.out u8s_one (pl1.length + cl1.length) rfl _ rfl _ rfl (by simp only [maxLen]; omega) (by omega) (by omega) ?_; intro B2 m2 z2 hownz2 hgz2 hatz2 hkz2 hlz2))
          have hll2 : pl1.length + cl1.length = pl2.length := by rw [HP2.out, List.length_append]
          rw [hll2] at hatz2 ⊢
          have HR2 : Hid (Grew wa z2 v (.slice B2 pl2.length m2)) := (HR1.out.below hbb1).trans ⟨hgz2, hatz2.imp id (fun he => ⟨_, he, Nat.le_refl _⟩)⟩
          have HO2 : Hid (Bts z2 w1.heap.size (.slice B2 pl2.length m2) pl2) := by
            have h9 := bts_app hownz2 rfl
            rw [hll2, ← HP2.out] at h9
            exact h9
          clear hownz2 hgz2 hatz2 hll2 hbb1
          have x2 : z2.cell? ⟨wo.heap.size, 2, none⟩ = some (.int .i64 x.arg) := (HR2.out.blk HBa.out HNe.out).cell rfl
          obtain ⟨cl2, hcl2⟩ : ∃ cl, cl = cnt (sgn x.arg) := ⟨_, rfl⟩
          have hcn2 : cl2.length ≤ 11 := by rw [hcl2]; exact cnt_len _
          have hsx2 := HXo.out x.arg (by simp)
          have hslt2 := sgn_lt hsx2
          have HCall2 : Hid (∀ W, Calls Try.prog 80 #[.int .u64 (sgn x.arg)] W (NewB cl2 W)) := fun W => by rw [hcl2]; exact rcount_any _ W hslt2
          obtain ⟨pl3, hp3⟩ : ∃ p, p = pl2 ++ cl2 := ⟨_, rfl⟩
          have hpl3 : pl3.length ≤ 153 + 44 * j := by rw [hp3, List.length_append]; omega
          have HP3 := Lib.hid hp3
          have HCL2 := Lib.hid hcl2
          clear hp3 hcl2 hslt2
          go_wp2_with fail
          refine (rsigned_any x.arg _ hsx2).mono ?_
          rintro e wq ⟨rfl, hwq⟩
          replace hwq := hwq.symm
          subst hwq
          go_wp2_with fail
          refine (HCall2.out _).mono ?_
          rintro e y2 ⟨C2, n2, rfl, hown2, hbb2⟩
          have hzy2 := hbb2.size
          have HS2 := Lib.hid (Sl.of_own hown2)
          have HT2 := Lib.hid (HO2.out.below hbb2)
          have hzb2 : w1.heap.size ≤ y2.heap.size := by have := HR2.out.gb.size; omega
          clear hown2 x2
          go_upto_region 14 with (at_builtin; go_must (refine wpList_app _ rfl _ _ 77 rfl w1.heap.size 5 i1 (.int .u8 0) 1 1 Try.underlying77 hi1 hi1z hi1s hi1b rfl (by decide) (.slice B2 pl2.length m2) pl2.length _ rfl (HT2.out) y2.heap.size C2 cl2.length n2 (u8s cl2) rfl HS2.out u8s_one (pl2.length + cl2.length) rfl _ rfl _ rfl (by simp only [maxLen]; omega) (by omega) (by omega) ?_; intro B3 m3 z3 hownz3 hgz3 hatz3 hkz3 hlz3))
          have hll3 : pl2.length + cl2.length = pl3.length := by rw [HP3.out, List.length_append]
          rw [hll3] at hatz3 ⊢
          have HR3 : Hid (Grew wa z3 v (.slice B3 pl3.length m3)) := (HR2.out.below hbb2).trans ⟨hgz3, hatz3.imp id (fun he => ⟨_, he, Nat.le_refl _⟩)⟩
          have HO3 : Hid (Bts z3 w1.heap.size (.slice B3 pl3.length m3) pl3) := by
            have h9 := bts_app hownz3 rfl
            rw [hll3, ← HP3.out] at h9
            exact h9
          clear hownz3 hgz3 hatz3 hll3 hbb2
          have x3 : z3.cell? ⟨wo.heap.size, 3, none⟩ = some (.int .i64 x.data) := (HR3.out.blk HBa.out HNe.out).cell rfl
          obtain ⟨cl3, hcl3⟩ : ∃ cl, cl = cnt (sgn x.data) := ⟨_, rfl⟩
          have hcn3 : cl3.length ≤ 11 := by rw [hcl3]; exact cnt_len _
          have hsx3 := HXo.out x.data (by simp)
          have hslt3 := sgn_lt hsx3
          have HCall3 : Hid (∀ W, Calls Try.prog 80 #[.int .u64 (sgn x.data)] W (NewB cl3 W)) := fun W => by rw [hcl3]; exact rcount_any _ W hslt3
          obtain ⟨pl4, hp4⟩ : ∃ p, p = pl3 ++ cl3 := ⟨_, rfl⟩
          have hpl4 : pl4.length ≤ 164 + 44 * j := by rw [hp4, List.length_append]; omega
          have HP4 := Lib.hid hp4
          have HCL3 := Lib.hid hcl3
          clear hp4 hcl3 hslt3
          go_wp2_with fail
          refine (rsigned_any x.data _ hsx3).mono ?_
          rintro e wq ⟨rfl, hwq⟩
          replace hwq := hwq.symm
          subst hwq
          go_wp2_with fail
          refine (HCall3.out _).mono ?_
          rintro e y3 ⟨C3, n3, rfl, hown3, hbb3⟩
          have hzy3 := hbb3.size
          have HS3 := Lib.hid (Sl.of_own hown3)
          have HT3 := Lib.hid (HO3.out.below hbb3)
          have hzb3 : w1.heap.size ≤ y3.heap.size := by have := HR3.out.gb.size; omega
          clear hown3 x3
          go_upto_region 15 with (at_builtin; go_must (refine wpList_app _ rfl _ _ 77 rfl w1.heap.size 5 i1 (.int .u8 0) 1 1 Try.underlying77 hi1 hi1z hi1s hi1b rfl (by decide) (.slice B3 pl3.length m3) pl3.length _ rfl (HT3.out) y3.heap.size C3 cl3.length n3 (u8s cl3) rfl HS3.out u8s_one (pl3.length + cl3.length) rfl _ rfl _ rfl (by simp only [maxLen]; omega) (by omega) (by omega) ?_; intro B4 m4 z4 hownz4 hgz4 hatz4 hkz4 hlz4))
          have hll4 : pl3.length + cl3.length = pl4.length := by rw [HP4.out, List.length_append]
          rw [hll4] at hatz4 ⊢
          have HR4 : Hid (Grew wa z4 v (.slice B4 pl4.length m4)) := (HR3.out.below hbb3).trans ⟨hgz4, hatz4.imp id (fun he => ⟨_, he, Nat.le_refl _⟩)⟩
          have HO4 : Hid (Bts z4 w1.heap.size (.slice B4 pl4.length m4) pl4) := by
            have h9 := bts_app hownz4 rfl
            rw [hll4, ← HP4.out] at h9
            exact h9
          clear hownz4 hgz4 hatz4 hll4 hbb3
          go_wp2_with fail
          go_roundg (gk - 1)
          case measure => omega
          case rel =>
            refine ⟨j + 1, _, pl4, by omega, by go_num, rfl, HO4.out, HGa.out.trans HR4.out, ?_⟩
            rw [HP4.out, HP3.out, HP2.out, HP1.out, HPl.out, mvsI_snoc HX.out, flat_app, HCL0.out, HCL1.out, HCL2.out, HCL3.out]
            show _ = nl ++ (flat sgn (mvsI (List.take j ms)) ++ flat sgn (mvI x))
            simp [flat, List.append_assoc]
        · obtain rfl : j = n := by omega
          have HPf := Lib.hid (show pl = bodyB s ms by rw [HPl.out, List.take_of_length_le (by rw [HLen.out]; exact Nat.le_refl _), HNN.out, HNl.out]; rfl)
          have hpl : pl.length ≤ 3000000 := by
            rw [HPl.out, List.length_append]
            have h8 := flat_len sgn (mvsI (ms.take j))
            rw [mvsI_len, List.length_take] at h8
            omega
          have hpb : ∀ x ∈ pl, x < 256 := by rw [HPf.out]; exact body_byte HK.out.2
          obtain ⟨w6, rfl⟩ : ∃ w6 : World, w6 = wr := ⟨_, rfl⟩
          obtain ⟨Av, kv, hvv, hkv1, hkv2⟩ := own_form HO.out
          obtain ⟨C, hC⟩ : ∃ C, C = crcS pl := ⟨_, rfl⟩
          have hCl : C < 4294967296 := by rw [hC]; exact crcS_lt pl
          have HSum : Hid (Calls Try.prog 35 #[v] w6 (fun e w' => e = .returned (.int .u32 C) ∧ w' = w6)) := by
            rw [hC, hvv]
            exact rsum_any Av pl.length kv pl w6 w6.heap.size (Sl.of_own (by rw [← hvv]; exact HO.out)) ⟨hkv1, hkv2⟩ hpb
          have HCC := Lib.hid (show C = crcS (bodyB s ms) by rw [hC, HPf.out])
          obtain ⟨r0, hr0⟩ : ∃ r, r = C % 256 := ⟨_, rfl⟩
          obtain ⟨r1, hr1⟩ : ∃ r, r = C / 256 % 256 := ⟨_, rfl⟩
          obtain ⟨r2, hr2⟩ : ∃ r, r = C / 65536 % 256 := ⟨_, rfl⟩
          obtain ⟨r3, hr3⟩ : ∃ r, r = C / 16777216 % 256 := ⟨_, rfl⟩
          have g0 : IntKind.u8.wrap (C : Int) = (r0 : Int) := by rw [IntKind.wrap_u8', hr0]; omega
          have g1 : IntKind.u8.wrap ((C : Int) / 256) = (r1 : Int) := by rw [IntKind.wrap_u8', hr1]; omega
          have g2 : IntKind.u8.wrap ((C : Int) / 65536) = (r2 : Int) := by rw [IntKind.wrap_u8', hr2]; omega
          have g3 : IntKind.u8.wrap ((C : Int) / 16777216) = (r3 : Int) := by rw [IntKind.wrap_u8', hr3]; omega
          have HI := Lib.hid (show imgB s ms = pl ++ [r0, r1, r2, r3] by
            unfold imgB
            rw [← HPf.out, ← hC, hr0, hr1, hr2, hr3]
            simp [leB, List.range_succ])
          clear hC hpb hvv hkv1 hkv2 hr0 hr1 hr2 hr3
          go_wp2_with fail
          refine HSum.out.mono ?_
          rintro e wq ⟨rfl, hwq⟩
          replace hwq := hwq.symm
          subst hwq
          go_wp2_with (at_builtin; go_must (refine wpList_app _ rfl _ _ 77 rfl w1.heap.size 5 i1 (.int .u8 0) 1 1 Try.underlying77 hi1 hi1z hi1s hi1b rfl (by decide) v pl.length _ rfl (HO.out.alloc _) (w6.heap.size + 1) (some ⟨w6.heap.size, 0, none⟩) 4 4 (u8s [r0, r1, r2, r3]) rfl (((Blk.new w6 5 _).sl rfl).up (by simp)) u8s_one (pl.length + 4) rfl _ rfl _ rfl (by simp only [maxLen]; omega) (by omega) (by rw [World.size_alloc]; omega) ?_; intro A7 k7 w7 hown7 hg7 hat7 hk7 hk8))
          go_ret
          have hG7 := HG.out.trans (Grew.app (v := .slice A7 (pl.length + 4) k7) hg7 hat7)
          have hF : Below w.heap.size w w7 := (HW0.out.trans (HW3.out.mono HW0.out.size)).grown hG7.gb (by have := HW0.out.size; have := HW3.out.size; omega) (fun g hg => by rw [HO5.out] at hg; injection hg with hg; have := HW0.out.size; omega)
          refine ⟨A7, k7, ?_, ?_, hF⟩
          · rw [HI.out, List.length_append]; rfl
          · have h9 : Bts w7 w1.heap.size (.slice A7 (pl.length + 4) k7) (pl ++ [r0, r1, r2, r3]) := bts_app hown7 rfl
            rw [HI.out, List.length_append]
            refine ⟨h9.1, ?_⟩
            rcases h9.2 with hh | ⟨g, cap, cur, e1, e2, e3⟩
            · exact Or.inl hh
            · exact Or.inr ⟨g, cap, cur, e1, Nat.le_trans HW0.out.size e2, e3⟩
end Go.Proofs.Ytgbopmgeicokoaa
