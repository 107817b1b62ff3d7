/-
  console.Save.
-/
import Derived.Test.YtgbopmgeicokoaaImg
import Derived.Deep.CutBlock
import Derived.Deep.DeepCutAuto
namespace Go.Proofs.Ytgbopmgeicokoaa
open Go.RowKit

theorem arr4_0 (a b c d : Int) (w : World) : (Instr.index 173 (.agg #[.int .i64 a, .int .i64 b, .int .i64 c, .int .i64 d]) (.int .i64 0)).run Try.prog w = .ok (.int .i64 a) w := by kernel_rfl
theorem arr4_1 (a b c d : Int) (w : World) : (Instr.index 173 (.agg #[.int .i64 a, .int .i64 b, .int .i64 c, .int .i64 d]) (.int .i64 1)).run Try.prog w = .ok (.int .i64 b) w := by kernel_rfl
theorem arr4_2 (a b c d : Int) (w : World) : (Instr.index 173 (.agg #[.int .i64 a, .int .i64 b, .int .i64 c, .int .i64 d]) (.int .i64 2)).run Try.prog w = .ok (.int .i64 c) w := by kernel_rfl
theorem arr4_3 (a b c d : Int) (w : World) : (Instr.index 173 (.agg #[.int .i64 a, .int .i64 b, .int .i64 c, .int .i64 d]) (.int .i64 3)).run Try.prog w = .ok (.int .i64 d) w := by kernel_rfl
theorem own_blk {w : World} {B e g T : Nat} {xs : List Value} (h : Blk w g e xs) (hl : xs.length = T) (hB : B ≤ g) (hT : T ≤ maxLen) : w.ownsRow B e 1 (.slice (some ⟨g, 0, none⟩) T T) T xs :=
  ⟨by omega, Or.inr ⟨g, T, xs.toArray, rfl, hB, h, Nat.le_refl _, hT, by simp [hl], by simp [List.take_of_length_le, hl]⟩⟩
def SavR (s : Ses) (n : Nat) (ms : List Mv) (w : World) (e : Ending) (w' : World) : Prop :=
  Below w.heap.size w w' ∧ ((sesErr s n = 0 ∧ ∃ A k, e = .returned (.tuple #[.slice A (imgB s ms).length k, .int .i64 0]) ∧ Bts w' w.heap.size (.slice A (imgB s ms).length k) (imgB s ms)) ∨ (sesErr s n ≠ 0 ∧ e = .returned (.tuple #[.slice none 0 0, .int .i64 (sesErr s n)])))
theorem Grew.blk {w w' : World} {u v : Value} {g : Nat} {t : TypeId} {cs : List Value} (h : Grew w w' u v) (hb : Blk w g t cs) (hne : some g ≠ u.ownBlock) : Blk w' g t cs := hb.kept (h.gb.block g hb.lt hne)
theorem Grew.sl {w w' : World} {u v : Value} {B sz n : Nat} {A : Option Addr} {xs : List Value} (h : Grew w w' u v) (hs : Sl w B sz A n xs) (hB : B ≤ w.heap.size) (hne : ∀ g, u.ownBlock = some g → B ≤ g) : Sl w' B sz A n xs := by
  refine ⟨hs.1, fun hn => ?_⟩
  obtain ⟨b, o, e, hb, hc⟩ := hs.2 hn
  exact ⟨b, o, e, hb, fun j x hx => (World.cell?_of_block (a := ⟨b, o + j, none⟩) (h.gb.block b (by omega) (fun he => by have := hne b he.symm; omega))).trans (hc j x hx)⟩

set_option maxRecDepth 100000 in
set_option maxHeartbeats 4000000 in
theorem psave_any (s : Ses) (A : Option Addr) (n k : Nat) (ms : List Mv) (w : World) (h : MvsAt w w.heap.size A n k ms) (hok : ∀ x ∈ ms, MvOk x) :
    Calls Try.prog 31 #[sesV s (.slice A n k)] w (SavR s n ms w) := by
  obtain ⟨i1, hi1, hi1z, hi1s, hi1b⟩ := info_parts info_u8
  have HLen := Lib.hid h.len
  have HOk := Lib.hid hok
  have HM := Lib.hid h
  have hnk := h.nk.1
  have HB0 : Hid (Blk (w.alloc (.cells #[.int .i64 s.kind, .int .i64 s.cfg.threads, .int .i64 s.cfg.records, .int .i64 s.cfg.hazards, .int .i64 s.cfg.retire, .int .i64 s.cfg.cache, .int .i64 s.cfg.slots, .int .i64 s.cfg.buckets, .int .i64 s.rt, .int .i64 s.rc, .int .i64 s.dt, .int .i64 s.dr, .int .i64 s.lt, .int .i64 s.lk, .int .i64 s.st, .int .i64 s.sv, .slice A n k] 76)) w.heap.size 76 (sesL s (.slice A n k))) := Blk.new _ _ _
  have HW0 : Hid (Below w.heap.size w (w.alloc (.cells #[.int .i64 s.kind, .int .i64 s.cfg.threads, .int .i64 s.cfg.records, .int .i64 s.cfg.hazards, .int .i64 s.cfg.retire, .int .i64 s.cfg.cache, .int .i64 s.cfg.slots, .int .i64 s.cfg.buckets, .int .i64 s.rt, .int .i64 s.rc, .int .i64 s.dt, .int .i64 s.dr, .int .i64 s.lt, .int .i64 s.lk, .int .i64 s.st, .int .i64 s.sv, .slice A n k] 76))) := (Below.refl _ _).alloc (Nat.le_refl _) _
  clear h hok
  go_enter Try.func31, Try.ntmps31
  go_wp2_with fail
  refine (scheck_any s A n k _).mono ?_
  generalize w.alloc (.cells #[.int .i64 s.kind, .int .i64 s.cfg.threads, .int .i64 s.cfg.records, .int .i64 s.cfg.hazards, .int .i64 s.cfg.retire, .int .i64 s.cfg.cache, .int .i64 s.cfg.slots, .int .i64 s.cfg.buckets, .int .i64 s.rt, .int .i64 s.rc, .int .i64 s.dt, .int .i64 s.dr, .int .i64 s.lt, .int .i64 s.lk, .int .i64 s.st, .int .i64 s.sv, .slice A n k] 76) = w0 at HB0 HW0 ⊢
  rintro e w1 ⟨rfl, hb1⟩
  have HB1 := Lib.hid (HB0.out.below hb1 HB0.out.lt)
  have HW1 := Lib.hid (HW0.out.trans (hb1.mono HW0.out.size))
  clear hb1
  by_cases h0 : sesErr s n = 0
  case neg =>
    have b1 : (sesErr s n != 0) = true := by simp [h0]
    have HE := Lib.hid h0
    clear h0
    go_wp2_with fail
    go_ret2
    exact ⟨HW1.out, Or.inr ⟨HE.out, rfl⟩⟩
  obtain ⟨hc, hn6⟩ := sesErr_ok h0
  have hk := cfg_kind hc
  obtain ⟨K, hK⟩ : ∃ K : Nat, s.kind = K := ⟨s.kind.toNat, by omega⟩
  have hK6 : K ≤ 6 := by omega
  have HNums := Lib.hid (cfg_nums hc)
  have HE := Lib.hid h0
  have b1 : (sesErr s n != 0) = false := by simp [h0]
  have c0 : w1.cell? ⟨w.heap.size, 0, none⟩ = some (.int .i64 K) := by rw [← hK]; exact HB1.out.cell rfl
  have b2 : IntKind.u8.wrap (K : Int) = K := by rw [IntKind.wrap_u8']; omega
  have hgl := HB1.out.lt
  have HHd := Lib.hid (show hdrB s = [82, 67, 76, 1, K] by unfold hdrB; rw [hK]; rfl)
  have HKs := Lib.hid hK
  have HK := Lib.hid hk
  have HC0 := Lib.hid hc
  clear h0 hc hK hk
  go_upto_region 5 with fail
  have HB2 : Hid (Blk (w1.alloc (.cells #[.int .u8 82, .int .u8 67, .int .u8 76, .int .u8 1, .int .u8 K] 5)) w.heap.size 76 (sesL s (.slice A n k))) := HB1.out.alloc _
  have HV2 : Hid (Bts (w1.alloc (.cells #[.int .u8 82, .int .u8 67, .int .u8 76, .int .u8 1, .int .u8 K] 5)) w1.heap.size (.slice (some ⟨w1.heap.size, 0, none⟩) 5 5) (hdrB s)) := by
    rw [HHd.out]
    exact own_blk (Blk.new w1 5 [.int .u8 82, .int .u8 67, .int .u8 76, .int .u8 1, .int .u8 K]) rfl (Nat.le_refl _) (by simp [maxLen])
  have HW2 : Hid (Below w1.heap.size w1 (w1.alloc (.cells #[.int .u8 82, .int .u8 67, .int .u8 76, .int .u8 1, .int .u8 K] 5))) := (Below.refl _ _).alloc (Nat.le_refl _) _
  have hz2 : w1.heap.size < (w1.alloc (.cells #[.int .u8 82, .int .u8 67, .int .u8 76, .int .u8 1, .int .u8 K] 5)).heap.size := by simp
  generalize w1.alloc (.cells #[.int .u8 82, .int .u8 67, .int .u8 76, .int .u8 1, .int .u8 K] 5) = w2 at HB2 HV2 HW2 hz2 ⊢
  clear c0 b1 b2
  have c0 : w2.cell? ⟨w.heap.size, 0, none⟩ = some (.int .i64 s.kind) := HB2.out.cell rfl
  go_wp2_with fail
  refine (fields_any s w.heap.size _ HK.out c0).mono ?_
  rintro e w3 ⟨bp, kp, rfl, hbp, hP3, hb3, hkp, hkp2⟩
  have HP3 := Lib.hid hP3
  have HB3 := Lib.hid (HB2.out.below hb3 HB2.out.lt)
  have HV3 := Lib.hid (HV2.out.below hb3)
  have HW3 := Lib.hid (HW2.out.trans (hb3.mono HW2.out.size))
  have hz3 := hb3.size
  obtain ⟨N, hN⟩ : ∃ N, N = (offsL s).length := ⟨_, rfl⟩
  have HN := Lib.hid hN
  rw [← hN] at hkp ⊢
  have hN7 : N ≤ 7 := by rw [hN, offs_len]; exact HNums.out.1
  have HNn := Lib.hid (show (numsL s).length = N by rw [hN, offs_len])
  obtain ⟨v5, hv5⟩ : ∃ v5, v5 = Value.slice (some ⟨w1.heap.size, 0, none⟩) 5 5 := ⟨_, rfl⟩
  have HV5 := Lib.hid hv5
  have HO5 : Hid (v5.ownBlock = some w1.heap.size) := by rw [hv5]; rfl
  clear c0 hP3 hb3 hN hv5
  unfold maxLen at hkp2
  go_wp2_with fail
  go_loopg [5, 24] N (fun gk v0 i wr => ∃ (q : Nat) (v : Value) (pl : List Nat), q + gk = N ∧ i = .int .i64 q ∧ v = v0 ∧ Hid (Bts wr w1.heap.size v pl) ∧ Hid (Grew w3 wr v5 v) ∧ Hid (pl = hdrB s ++ flat Int.toNat ((numsL s).take q)))
  case atStart => exact ⟨0, _, hdrB s, by omega, rfl, rfl, HV3.out, by rw [HV5.out]; exact Grew.refl _ _, by rw [List.take_zero]; exact (List.append_nil _).symm⟩
  case round =>
    obtain ⟨q, v, pl, hq, rfl, rfl, HO, HG, HPl⟩ := hrel
    have hzr : w3.heap.size ≤ wr.heap.size := HG.out.gb.size
    by_cases hlt : q < N
    · obtain ⟨x, hx⟩ := at_lt (by rw [HNn.out]; exact hlt : q < (numsL s).length)
      obtain ⟨o, ho1, ho2⟩ := offs_get s (.slice A n k) hx
      have hxb := HNums.out.2 x (List.mem_of_getElem? hx)
      obtain ⟨X, hX⟩ : ∃ X : Nat, x = X := ⟨x.toNat, by omega⟩
      subst hX
      have cp : wr.cell? ⟨bp, q, none⟩ = some (.pointer (some ⟨w.heap.size, o, none⟩)) := (HG.out.blk HP3.out (by rw [HO5.out]; intro he; injection he with he; omega)).cell (by simp [ptrs, ho1])
      have ci : wr.cell? ⟨w.heap.size, o, none⟩ = some (.int .i64 X) := (HG.out.blk HB3.out (by rw [HO5.out]; intro he; injection he with he; omega)).cell ho2
      have e1 : (q : Int) < N := by omega
      have e0 : (0 : Int) ≤ q := by omega
      have b3 : IntKind.u64.wrap (X : Int) = X := by rw [u64_wrap']; omega
      obtain ⟨nl, hnl⟩ : ∃ nl, nl = pl ++ cnt X := ⟨_, rfl⟩
      have hpl : pl.length ≤ 100 := by rw [HPl.out, List.length_append, hdr_len]; have := flat_len Int.toNat ((numsL s).take q); rw [List.length_take] at this; omega
      have HCall : Hid (Calls Try.prog 72 #[v, .int .u64 X] wr (CntR w1.heap.size v nl wr)) := by rw [hnl]; exact pcount_any w1.heap.size v pl X wr HO.out (by omega) (by omega) (by omega)
      have HNl := Lib.hid (show nl = hdrB s ++ flat Int.toNat ((numsL s).take (q + 1)) by rw [hnl, HPl.out, flat_snoc hx, List.append_assoc]; rfl)
      clear hx ho1 ho2 hxb hnl
      go_wp2_with fail
      refine HCall.out.mono ?_
      rintro e w5 ⟨A7, k7, rfl, hb7, hg7⟩
      go_wp2_with fail
      go_roundg (gk - 1)
      case measure => omega
      case rel => exact ⟨q + 1, .slice A7 nl.length k7, nl, by omega, by go_num, rfl, hb7, HG.out.trans hg7, HNl.out⟩
    · obtain rfl : q = N := by omega
      have HPf := Lib.hid (show pl = hdrB s ++ flat Int.toNat (numsL s) by rw [HPl.out, List.take_of_length_le (by rw [HNn.out]; exact Nat.le_refl _)])
      obtain ⟨w4, rfl⟩ : ∃ w4 : World, w4 = wr := ⟨_, rfl⟩
      have hpl : pl.length ≤ 100 := by rw [HPf.out, List.length_append, hdr_len]; have := flat_len Int.toNat (numsL s); rw [HNn.out] at this; omega
      have c16 : w4.cell? ⟨w.heap.size, 16, none⟩ = some (.slice A n k) := (HG.out.blk HB3.out (by rw [HO5.out]; intro he; injection he with he; omega)).cell rfl
      have b3 : IntKind.u64.wrap (n : Int) = n := by rw [u64_wrap']; omega
      obtain ⟨nl, hnl⟩ : ∃ nl, nl = pl ++ cnt n := ⟨_, rfl⟩
      have HCall : Hid (Calls Try.prog 72 #[v, .int .u64 n] w4 (CntR w1.heap.size v nl w4)) := by rw [hnl]; exact pcount_any w1.heap.size v pl n w4 HO.out (by omega) (by omega) (by omega)
      have hnll : nl.length ≤ 120 := by rw [hnl, List.length_append]; have := cnt_len n; omega
      have HNl := Lib.hid (show nl = hdrB s ++ flat Int.toNat (numsL s) ++ cnt ms.length by rw [hnl, HPf.out, HLen.out])
      clear hnl
      go_wp2_with fail
      refine HCall.out.mono ?_
      rintro e w5 ⟨A5, k5, rfl, hb5, hg5⟩
      have HG5 := Lib.hid (HG.out.trans hg5)
      have HO6 := Lib.hid hb5
      have hz5 := HG5.out.gb.size
      clear c16 hb5 hg5
      have c16 : w5.cell? ⟨w.heap.size, 16, none⟩ = some (.slice A n k) := (HG5.out.blk HB3.out (by rw [HO5.out]; intro he; injection he with he; omega)).cell rfl
      obtain ⟨go, rfl⟩ : ∃ go : Nat, go = gk := ⟨_, rfl⟩
      go_wp2_with fail
      go_loopg [5, 44] n (fun gk v0 i wr => ∃ (j : Nat) (v : Value) (pl : List Nat), j + gk = n ∧ i = .int .i64 j ∧ v = v0 ∧ Hid (Bts wr w1.heap.size v pl) ∧ Hid (Grew w3 wr v5 v) ∧ Hid (pl = nl ++ flat sgn (mvsI (ms.take j))))
      case atStart => exact ⟨0, _, nl, by omega, rfl, rfl, HO6.out, HG5.out, by rw [List.take_zero]; exact (List.append_nil _).symm⟩
      case round =>
        obtain ⟨j, v, pl, hj, rfl, rfl, HO, HG, HPl⟩ := hrel
        have hzr : w3.heap.size ≤ wr.heap.size := HG.out.gb.size
        by_cases hlt2 : j < n
        · obtain ⟨x, hx⟩ := at_lt (by rw [HLen.out]; exact hlt2 : j < ms.length)
          have hW : Below w.heap.size w wr := (HW1.out.trans (HW3.out.mono HW1.out.size)).grown HG.out.gb (by have := HW1.out.size; have := HW3.out.size; omega) (fun g hg => by rw [HO5.out] at hg; injection hg with hg; omega)
          obtain ⟨b, o, rfl, hb, x0, x1, x2, x3⟩ := (HM.out.keep hW).at_ hx
          have e1 : (j : Int) < n := by omega
          have e0 : (0 : Int) ≤ j := by omega
          have HX := Lib.hid hx
          have HXo := Lib.hid (HOk.out x (List.mem_of_getElem? hx))
          have hpl : pl.length ≤ 120 + 44 * j := by
            rw [HPl.out, List.length_append]
            have h8 := flat_len sgn (mvsI (ms.take j))
            rw [mvsI_len, List.length_take] at h8
            omega
          obtain ⟨wo, rfl⟩ : ∃ wo : World, wo = wr := ⟨_, rfl⟩
          obtain ⟨gj, rfl⟩ : ∃ gj : Nat, gj = gk := ⟨_, rfl⟩
          have HGa : Hid (Grew w3 (wo.alloc (.cells #[.int .i64 x.thread, .int .i64 x.op, .int .i64 x.arg, .int .i64 x.data] 95)) v5 v) := HG.out.below ((Below.refl _ _).alloc (Nat.le_refl _) _)
          have HOa : Hid (Bts (wo.alloc (.cells #[.int .i64 x.thread, .int .i64 x.op, .int .i64 x.arg, .int .i64 x.data] 95)) w1.heap.size v pl) := HO.out.alloc _
          have HBa : Hid (Blk (wo.alloc (.cells #[.int .i64 x.thread, .int .i64 x.op, .int .i64 x.arg, .int .i64 x.data] 95)) wo.heap.size 95 (mvL x)) := Blk.new _ _ _
          clear hx
          go_upto_region 14 with fail
          generalize wo.alloc (.cells #[.int .i64 x.thread, .int .i64 x.op, .int .i64 x.arg, .int .i64 x.data] 95) = wa at HGa HOa HBa ⊢
          clear x0 x1 x2 x3
          have x0 : wa.cell? ⟨wo.heap.size, 0, none⟩ = some (.int .i64 x.thread) := HBa.out.cell rfl
          have x1 : wa.cell? ⟨wo.heap.size, 1, none⟩ = some (.int .i64 x.op) := HBa.out.cell rfl
          have x2 : wa.cell? ⟨wo.heap.size, 2, none⟩ = some (.int .i64 x.arg) := HBa.out.cell rfl
          have x3 : wa.cell? ⟨wo.heap.size, 3, none⟩ = some (.int .i64 x.data) := HBa.out.cell rfl
          have hza := HGa.out.gb.size
          go_wp2_with fail
          clear x0 x1 x2 x3
          go_loopg [5, 57] 4 (fun gk v0 i wr => ∃ (q : Nat) (v' : Value) (pl' : List Nat), q + gk = 4 ∧ i = .int .i64 q ∧ v' = v0 ∧ Hid (Bts wr w1.heap.size v' pl') ∧ Hid (Grew w3 wr v5 v') ∧ Hid (pl' = pl ++ flat sgn ((mvI x).take q)))
          case atStart => exact ⟨0, v, pl, by omega, rfl, rfl, HOa.out, HGa.out, by rw [List.take_zero]; exact (List.append_nil _).symm⟩
          case round =>
            obtain ⟨q, v', pl', hq, rfl, rfl, HO7, HG7, HPl7⟩ := hrel
            have hzr7 : w3.heap.size ≤ wr.heap.size := HG7.out.gb.size
            have HStep : Hid (∀ z, (mvI x)[q]? = some z → q < 4 → ∃ nl', nl' = pl ++ flat sgn ((mvI x).take (q + 1)) ∧ Calls Try.prog 73 #[v', .int .i64 z] wr (CntR w1.heap.size v' nl' wr)) := fun z hz hq4 => by
              refine ⟨pl' ++ cnt (sgn z), by rw [HPl7.out, flat_snoc hz, List.append_assoc], psigned_any w1.heap.size v' pl' z wr HO7.out (by omega) (HXo.out z (List.mem_of_getElem? hz)) ?_⟩
              rw [HPl7.out, List.length_append]
              have h8 := flat_len sgn ((mvI x).take q)
              rw [List.length_take] at h8
              have : (mvI x).length = 4 := rfl
              omega
            rcases Nat.lt_or_ge q 4 with hq4 | hq4
            · have hqq : q = 0 ∨ q = 1 ∨ q = 2 ∨ q = 3 := by omega
              rcases hqq with rfl | rfl | rfl | rfl
              · obtain ⟨nl', hnl', hcall⟩ := HStep.out x.thread rfl hq4
                have ha4 := arr4_0 x.thread x.op x.arg x.data wr
                have HNl' := Lib.hid hnl'
                have HCall' := Lib.hid hcall
                clear hnl' hcall
                go_wp2_with fail
                refine HCall'.out.mono ?_
                rintro e w7 ⟨A7, k7, rfl, hb7, hg7⟩
                go_wp2_with fail
                go_roundg (gk - 1)
                case measure => omega
                case rel => exact ⟨1, .slice A7 nl'.length k7, nl', by omega, by go_num, rfl, hb7, HG7.out.trans hg7, HNl'.out⟩
              · obtain ⟨nl', hnl', hcall⟩ := HStep.out x.op rfl hq4
                have ha4 := arr4_1 x.thread x.op x.arg x.data wr
                have HNl' := Lib.hid hnl'
                have HCall' := Lib.hid hcall
                clear hnl' hcall
                go_wp2_with fail
                refine HCall'.out.mono ?_
                rintro e w7 ⟨A7, k7, rfl, hb7, hg7⟩
                go_wp2_with fail
                go_roundg (gk - 1)
                case measure => omega
                case rel => exact ⟨2, .slice A7 nl'.length k7, nl', by omega, by go_num, rfl, hb7, HG7.out.trans hg7, HNl'.out⟩
              · obtain ⟨nl', hnl', hcall⟩ := HStep.out x.arg rfl hq4
                have ha4 := arr4_2 x.thread x.op x.arg x.data wr
                have HNl' := Lib.hid hnl'
                have HCall' := Lib.hid hcall
                clear hnl' hcall
                go_wp2_with fail
                refine HCall'.out.mono ?_
                rintro e w7 ⟨A7, k7, rfl, hb7, hg7⟩
                go_wp2_with fail
                go_roundg (gk - 1)
                case measure => omega
                case rel => exact ⟨3, .slice A7 nl'.length k7, nl', by omega, by go_num, rfl, hb7, HG7.out.trans hg7, HNl'.out⟩
              · obtain ⟨nl', hnl', hcall⟩ := HStep.out x.data rfl hq4
                have ha4 := arr4_3 x.thread x.op x.arg x.data wr
                have HNl' := Lib.hid hnl'
                have HCall' := Lib.hid hcall
                clear hnl' hcall
                go_wp2_with fail
                refine HCall'.out.mono ?_
                rintro e w7 ⟨A7, k7, rfl, hb7, hg7⟩
                go_wp2_with fail
                go_roundg (gk - 1)
                case measure => omega
                case rel => exact ⟨4, .slice A7 nl'.length k7, nl', by omega, by go_num, rfl, hb7, HG7.out.trans hg7, HNl'.out⟩
            · obtain rfl : q = 4 := by omega
              go_wp2_with fail
              go_roundg (gj - 1)
              case measure => omega
              case rel => exact ⟨j + 1, v', pl', by omega, by go_num, rfl, HO7.out, HG7.out, by rw [HPl7.out, HPl.out, mvsI_snoc HX.out, flat_app, List.append_assoc]; rfl⟩
        · obtain rfl : j = n := by omega
          have HPf := Lib.hid (show pl = bodyB s ms by rw [HPl.out, List.take_of_length_le (by rw [HLen.out]; exact Nat.le_refl _), HNl.out]; rfl)
          have hpl : pl.length ≤ 3000000 := by
            rw [HPl.out, List.length_append]
            have h8 := flat_len sgn (mvsI (ms.take j))
            rw [mvsI_len, List.length_take] at h8
            omega
          have hpb : ∀ x ∈ pl, x < 256 := by rw [HPf.out]; exact body_byte HK.out.2
          obtain ⟨w6, rfl⟩ : ∃ w6 : World, w6 = wr := ⟨_, rfl⟩
          obtain ⟨Av, kv, hvv, hkv1, hkv2⟩ := own_form HO.out
          obtain ⟨C, hC⟩ : ∃ C, C = crcS pl := ⟨_, rfl⟩
          have hCl : C < 4294967296 := by rw [hC]; exact crcS_lt pl
          have HSum : Hid (Calls Try.prog 34 #[v] w6 (fun e w' => e = .returned (.int .u32 C) ∧ w' = w6)) := by
            rw [hC, hvv]
            exact psum_any Av pl.length kv pl w6 w6.heap.size (Sl.of_own (by rw [← hvv]; exact HO.out)) ⟨hkv1, hkv2⟩ hpb
          have HCC := Lib.hid (show C = crcS (bodyB s ms) by rw [hC, HPf.out])
          clear hC hpb hvv hkv1 hkv2
          go_wp2_with fail
          refine HSum.out.mono ?_
          rintro e w7 ⟨rfl, rfl⟩
          go_wp2_with fail
          obtain ⟨w6, rfl⟩ : ∃ w6 : World, w6 = w7 := ⟨_, rfl⟩
          go_loopg [5, 12, 67] 4 (fun gk v0 s0 i wr => ∃ (q : Nat) (v' : Value) (pl' : List Nat) (c : Nat), q + gk = 4 ∧ i = .int .i64 q ∧ s0 = .int .u32 c ∧ v' = v0 ∧ c < 4294967296 ∧ Hid (Bts wr w1.heap.size v' pl') ∧ Hid (Grew w3 wr v5 v') ∧ Hid (pl' = pl ++ leB C q) ∧ Hid (c = C / 256 ^ q))
          case atStart => exact ⟨0, v, pl, C, by omega, rfl, rfl, rfl, hCl, HO.out, HG.out, (List.append_nil _).symm, by rw [Nat.pow_zero, Nat.div_one]; rfl⟩
          case round =>
            obtain ⟨q, v', pl', c, hq, rfl, rfl, rfl, hcl, HO7, HG7, HPl7, HC7⟩ := hrel
            have hzr7 : w3.heap.size ≤ wr.heap.size := HG7.out.gb.size
            by_cases hq4 : q < 4
            · have e1 : (q : Int) < 4 := by omega
              have e0 : (0 : Int) ≤ q := by omega
              obtain ⟨r, hr⟩ : ∃ r, r = c % 256 := ⟨_, rfl⟩
              have b4 : IntKind.u8.wrap (c : Int) = (r : Int) := by rw [IntKind.wrap_u8', hr]; omega
              have hpl7 : pl'.length ≤ 3000100 := by rw [HPl7.out, List.length_append]; simp [leB]; omega
              have HRr := Lib.hid (show r = C / 256 ^ q % 256 by rw [hr, HC7.out])
              clear hr
              go_wp2_with (at_builtin; go_must (refine wpList_app _ rfl _ _ 77 rfl w1.heap.size 5 i1 (.int .u8 0) 1 1 Try.underlying77 hi1 hi1z hi1s hi1b rfl (by decide) v' pl'.length _ rfl (HO7.out.alloc _) (wr.heap.size + 1) (some ⟨wr.heap.size, 0, none⟩) 1 1 (u8s [r]) rfl (((Blk.new wr 5 _).sl rfl).up (by simp)) u8s_one (pl'.length + 1) rfl _ rfl _ rfl (by simp only [maxLen]; omega) (by omega) (by rw [World.size_alloc]; omega) ?_; intro A7 k7 w7 hown7 hg7 hat7 hk7 hk8))
              go_roundg (gk - 1)
              case measure => omega
              case rel =>
                refine ⟨q + 1, _, pl' ++ [r], c / 256, by omega, by go_num, by simp, rfl, by omega, bts_app hown7 rfl, HG7.out.trans (Grew.app hg7 hat7), ?_, ?_⟩
                · rw [HPl7.out, leB_next, HRr.out, List.append_assoc]; rfl
                · rw [HC7.out, Nat.pow_succ, Nat.div_div_eq_div_mul]; rfl
            · obtain rfl : q = 4 := by omega
              have HI := Lib.hid (show pl' = imgB s ms by rw [HPl7.out, HPf.out, HCC.out]; rfl)
              obtain ⟨Av, kv, rfl, hkv1, hkv2⟩ := own_form HO7.out
              go_wp2_with fail
              go_ret2
              have hF : Below w.heap.size w wr := (HW1.out.trans (HW3.out.mono HW1.out.size)).grown HG7.out.gb (by have := HW1.out.size; have := HW3.out.size; omega) (fun g hg => by rw [HO5.out] at hg; injection hg with hg; have := HW1.out.size; omega)
              refine ⟨hF, Or.inl ⟨HE.out, Av, kv, by rw [← HI.out]; rfl, ?_⟩⟩
              rw [← HI.out]
              exact ⟨HO7.out.1, by
                rcases HO7.out.2 with hh | ⟨g, cap, cur, e1, e2, e3⟩
                · exact Or.inl hh
                · exact Or.inr ⟨g, cap, cur, e1, Nat.le_trans HW1.out.size e2, e3⟩⟩
end Go.Proofs.Ytgbopmgeicokoaa
