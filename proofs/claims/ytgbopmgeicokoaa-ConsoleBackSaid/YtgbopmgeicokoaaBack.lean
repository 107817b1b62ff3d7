/-
  ConsoleBack: the law's walk.
-/
import Derived.Test.YtgbopmgeicokoaaFit
import Derived.Test.YtgbopmgeicokoaaXor
import Derived.Test.YtgbopmgeicokoaaLdLaw
import Derived.StillTailTactics
namespace Go.Proofs.Ytgbopmgeicokoaa
open Go.RowKit

theorem img_byte {s : Ses} {ms : List Mv} (h : s.kind ≤ 6) : ∀ x ∈ imgB s ms, x < 256 := by
  intro x hx
  unfold imgB at hx
  rcases List.mem_append.1 hx with h1 | h1
  · exact body_byte h x h1
  · exact leB_byte _ _ x h1
theorem xr_get {l : List Nat} {a c j : Nat} (q : Nat) (h : j < l.length) : ∃ x, (xrL l a c q)[j]? = some x := ⟨_, List.getElem?_eq_getElem (by rw [xrL_len]; exact h)⟩
theorem take_cell {cs : List Value} {N j x : Nat} {l : List Nat} (h : cs.take N = u8s l) (hx : l[j]? = some x) (hj : j < N) : cs[j]? = some (.int .u8 x) := by
  have h2 := u8s_get hx
  rw [← h, List.getElem?_take_of_lt hj] at h2
  exact h2
theorem xr_next {cs : List Value} {N a c q x : Nat} {l : List Nat} (h : cs.take N = u8s (xrL l a c q)) (hx : (xrL l a c q)[a + q]? = some x) : (cs.set (a + q) (.int .u8 ((x ^^^ (c / 256 ^ q % 256) : Nat) : Int))).take N = u8s (xrL l a c (q + 1)) := by
  rw [List.take_set, h]
  unfold u8s
  show List.set (List.map _ _) _ _ = List.map _ ((xrL l a c q).set (a + q) (((xrL l a c q)[a + q]?.getD 0) ^^^ (c / 256 ^ q % 256)))
  rw [hx, List.map_set]
  rfl
theorem tmod_nat (a N : Nat) (h : 3 < N) : Int.tmod (a : Int) ((N : Int) - 3) = ((a % (N - 3) : Nat) : Int) := by
  rw [show (N : Int) - 3 = ((N - 3 : Nat) : Int) by omega]
  exact Int.ofNat_tmod a (N - 3)

set_option maxRecDepth 100000 in
set_option maxHeartbeats 8000000 in
theorem law_back (s : Ses) (A : Option Addr) (n k : Nat) (ms : List Mv) (at_ : Int) (c : Nat) (w : World) (h : MvsAt w w.heap.size A n k ms) (hok : ∀ x ∈ ms, MvOk x) (hat : -9223372036854775808 ≤ at_ ∧ at_ ≤ 9223372036854775807) (hc : c < 4294967296) :
    Calls Try.prog 9 #[sesV s (.slice A n k), .int .i64 at_, .int .u32 c] w (BoolR true w) := by
  have HB0 : Hid (Blk (w.alloc (.cells #[.int .i64 s.kind, .int .i64 s.cfg.threads, .int .i64 s.cfg.records, .int .i64 s.cfg.hazards, .int .i64 s.cfg.retire, .int .i64 s.cfg.cache, .int .i64 s.cfg.slots, .int .i64 s.cfg.buckets, .int .i64 s.rt, .int .i64 s.rc, .int .i64 s.dt, .int .i64 s.dr, .int .i64 s.lt, .int .i64 s.lk, .int .i64 s.st, .int .i64 s.sv, .slice A n k] 76)) w.heap.size 76 (sesL s (.slice A n k))) := Blk.new _ _ _
  have HW0 : Hid (Below w.heap.size w (w.alloc (.cells #[.int .i64 s.kind, .int .i64 s.cfg.threads, .int .i64 s.cfg.records, .int .i64 s.cfg.hazards, .int .i64 s.cfg.retire, .int .i64 s.cfg.cache, .int .i64 s.cfg.slots, .int .i64 s.cfg.buckets, .int .i64 s.rt, .int .i64 s.rc, .int .i64 s.dt, .int .i64 s.dr, .int .i64 s.lt, .int .i64 s.lk, .int .i64 s.st, .int .i64 s.sv, .slice A n k] 76))) := (Below.refl _ _).alloc (Nat.le_refl _) _
  have HM := Lib.hid h
  have HOk := Lib.hid hok
  have HAt := Lib.hid hat
  have HC := Lib.hid hc
  clear h hok hat hc
  have hz0 : (w.alloc (.cells #[.int .i64 s.kind, .int .i64 s.cfg.threads, .int .i64 s.cfg.records, .int .i64 s.cfg.hazards, .int .i64 s.cfg.retire, .int .i64 s.cfg.cache, .int .i64 s.cfg.slots, .int .i64 s.cfg.buckets, .int .i64 s.rt, .int .i64 s.rc, .int .i64 s.dt, .int .i64 s.dr, .int .i64 s.lt, .int .i64 s.lk, .int .i64 s.st, .int .i64 s.sv, .slice A n k] 76)).heap.size = w.heap.size + 1 := World.size_alloc ..
  have HM0 : Hid (MvsAt (w.alloc (.cells #[.int .i64 s.kind, .int .i64 s.cfg.threads, .int .i64 s.cfg.records, .int .i64 s.cfg.hazards, .int .i64 s.cfg.retire, .int .i64 s.cfg.cache, .int .i64 s.cfg.slots, .int .i64 s.cfg.buckets, .int .i64 s.rt, .int .i64 s.rc, .int .i64 s.dt, .int .i64 s.dr, .int .i64 s.lt, .int .i64 s.lk, .int .i64 s.st, .int .i64 s.sv, .slice A n k] 76)) w.heap.size A n k ms) := HM.out.keep HW0.out
  go_enter Try.func9, Try.ntmps9
  go_upto_region 1 with fail
  generalize w.alloc (.cells #[.int .i64 s.kind, .int .i64 s.cfg.threads, .int .i64 s.cfg.records, .int .i64 s.cfg.hazards, .int .i64 s.cfg.retire, .int .i64 s.cfg.cache, .int .i64 s.cfg.slots, .int .i64 s.cfg.buckets, .int .i64 s.rt, .int .i64 s.rc, .int .i64 s.dt, .int .i64 s.dr, .int .i64 s.lt, .int .i64 s.lk, .int .i64 s.st, .int .i64 s.sv, .slice A n k] 76) = w0 at HB0 HW0 hz0 HM0 ⊢
  refine wp_region_lit ?_
  refine wpList_load_row rfl _ _ rfl w.heap.size rfl 76 _ (0, 0) _ HB0.out Try.underlying76 rfl size_ses ?_
  go_wp2_with fail
  refine (fit_any s A n k ms w0 w.heap.size HM0.out (by omega) HOk.out).mono ?_
  rintro e w1 ⟨s1, A1, n1, k1, ms1, rfl, hm1, hA1, hok1, he1, hf1, hb1⟩
  have HB1 := Lib.hid (HB0.out.below hb1 HB0.out.lt)
  have HW1 := Lib.hid (HW0.out.trans (hb1.mono HW0.out.size))
  have HM1 := Lib.hid hm1
  have HE1 := Lib.hid he1
  have HF1 := Lib.hid hf1
  have HOk1 := Lib.hid hok1
  have HA1 := Lib.hid hA1
  clear hb1 hm1 he1 hf1 hok1 hA1 HB0 HM0 HW0 HM HOk
  rename_i hk
  refine hk _ _ ?_
  clear hk
  refine wpList_store_row rfl _ _ _ rfl w.heap.size _ rfl rfl _ _ HB1.out size_ses rfl (ses_one s1 A1 n1 k1) ?_
  have HB2 : Hid (Blk (w1.setRow w.heap.size (sesL s1 (.slice A1 n1 k1)).toArray) w.heap.size 76 (sesL s1 (.slice A1 n1 k1))) := setRow_heap w1 w.heap.size _ (sesL s1 (.slice A1 n1 k1)).toArray _ _ HB1.out
  have HW2 : Hid (Below w.heap.size w (w1.setRow w.heap.size (sesL s1 (.slice A1 n1 k1)).toArray)) := below_row HW1.out (by omega)
  have hz2 : (w1.setRow w.heap.size (sesL s1 (.slice A1 n1 k1)).toArray).heap.size = w1.heap.size := by simp [World.setRow]
  have HM2 : Hid (MvsAt (w1.setRow w.heap.size (sesL s1 (.slice A1 n1 k1)).toArray) w1.heap.size A1 n1 k1 ms1) := HM1.out.other (fun hn a ha => setRow_other w1 w.heap.size a.block _ (by have := HA1.out hn a ha; omega))
  generalize w1.setRow w.heap.size (sesL s1 (.slice A1 n1 k1)).toArray = w2 at HB2 HW2 HM2 hz2 ⊢
  have HM2' := Lib.hid (HM2.out.up (B' := w2.heap.size) (by omega))
  have hgl2 := HB2.out.lt
  clear HM2 HM1 HB1 HW1 HA1 hz2 hz0
  go_upto_region 2 with fail
  refine wp_region_lit ?_
  refine wpList_load_row rfl _ _ rfl w.heap.size rfl 76 _ (0, 0) _ HB2.out Try.underlying76 rfl size_ses ?_
  go_wp2_with fail
  refine (psave_any s1 A1 n1 k1 ms1 w2 HM2'.out HOk1.out).mono ?_
  rintro e w3 ⟨hb3, hh⟩
  rcases hh with ⟨_, Ab, kb, rfl, hBb⟩ | ⟨hne, rfl⟩
  case inr => exact absurd HE1.out hne
  have hlm : ms1.length = n1 := HM2'.out.len
  have he1' : sesErr s1 ms1.length = 0 := by rw [hlm]; exact HE1.out
  obtain ⟨I, hI⟩ : ∃ I, I = imgB s1 ms1 := ⟨_, rfl⟩
  obtain ⟨N, hN⟩ : ∃ N, N = I.length := ⟨_, rfl⟩
  have hBb' : w3.ownsRow w2.heap.size 5 1 (.slice Ab N kb) N (u8s I) := by rw [hN, hI]; exact hBb
  have hNb : 9 ≤ N ∧ N ≤ 4000000 := by
    have := img_len he1'
    rw [hN, hI]
    omega
  have HLd : Hid (loadP I = (0, s1, ms1)) := by
    rw [hI, loadP_img he1' HOk1.out, HF1.out]
    rfl
  have HIb : Hid (∀ x ∈ I, x < 256) := by
    rw [hI]
    exact img_byte (cfg_kind (sesErr_ok he1').1).2
  have HFit : Hid (Fits I) := by rw [hI]; exact img_fits he1'
  rw [← hI, ← hN]
  obtain ⟨gb, csb, rfl, hgb, hBk, hcl, hNk, hkm, htk⟩ := Bts.blk hBb' (by omega)
  have HBk := Lib.hid hBk
  have HCl := Lib.hid hcl
  have HTk := Lib.hid htk
  have HNl := Lib.hid hN
  have HLm := Lib.hid hlm
  have HB3 := Lib.hid (HB2.out.below hb3 HB2.out.lt)
  have HM3 := Lib.hid (HM2'.out.keep hb3)
  have HW3 := Lib.hid (HW2.out.trans (hb3.mono (by omega)))
  have hz3 := hb3.size
  have hgb3 := HBk.out.lt
  clear hBb hBb' hBk hcl htk hI hN hb3 HM2' HB2 HW2 HE1 HF1 hlm he1'
  have b1 : ((N : Int) < 9) = False := by simp; omega
  have b2 : decide ((N : Int) < 9) = false := by simp; omega
  go_wp2_with fail
  refine (awake28_any _).mono ?_
  rintro e w4 ⟨rfl, hb4⟩
  have HBk4 := Lib.hid (HBk.out.below hb4 HBk.out.lt)
  have HB4 := Lib.hid (HB3.out.below hb4 HB3.out.lt)
  have HM4 := Lib.hid (HM3.out.keep (hb4.mono (by omega)))
  have HW4 := Lib.hid (HW3.out.trans (hb4.mono HW3.out.size))
  have HS4 := Lib.hid (HBk4.out.slb HCl.out hNk HTk.out)
  have hz4 := hb4.size
  clear hb4 HBk HB3 HM3 HW3
  have HP : Hid (Calls Try.prog 39 #[.slice (some ⟨gb, 0, none⟩) N kb] w4 (LdR (0, s1, ms1) w4)) := by
    rw [← HLd.out]
    exact pload_any _ N kb I w4 HS4.out ⟨hNk, hkm⟩ HIb.out
  clear b1 b2
  go_wp2_with fail
  refine HP.out.mono ?_
  rintro e w5 ⟨A5, k5, rfl, hO5, hb5⟩
  have hO5' : w5.ownsRow w4.heap.size 95 4 (.slice A5 n1 k5) n1 (mvVals ms1) := by rw [← HLm.out]; exact hO5
  have HO5 := Lib.hid hO5'
  have HBk5 := Lib.hid (HBk4.out.below hb5 HBk4.out.lt)
  have HB5 := Lib.hid (HB4.out.below hb5 HB4.out.lt)
  have HM5 := Lib.hid (HM4.out.keep (hb5.mono (by omega)))
  have HW5 := Lib.hid (HW4.out.trans (hb5.mono HW4.out.size))
  have hz5 := hb5.size
  rw [show ((0 : Int), s1, ms1).2.2.length = n1 from HLm.out]
  clear hO5 hO5' hb5 HP HBk4 HB4 HM4 HW4 HS4
  go_upto_region 6 with fail
  have HT6 : Hid (Blk (w5.alloc (.cells (sesL s1 (.slice A5 n1 k5)).toArray 76)) w5.heap.size 76 (sesL s1 (.slice A5 n1 k5))) := Blk.new _ _ _
  have HO6 := Lib.hid (HO5.out.alloc (.cells (sesL s1 (.slice A5 n1 k5)).toArray 76))
  have HBk6 := Lib.hid (HBk5.out.alloc (.cells (sesL s1 (.slice A5 n1 k5)).toArray 76))
  have HB6 := Lib.hid (HB5.out.alloc (.cells (sesL s1 (.slice A5 n1 k5)).toArray 76))
  have HM6 : Hid (MvsAt (w5.alloc (.cells (sesL s1 (.slice A5 n1 k5)).toArray 76)) w2.heap.size A1 n1 k1 ms1) := HM5.out.keep ((Below.refl _ _).alloc (by omega) _)
  have HW6 := Lib.hid (HW5.out.alloc HW5.out.size (.cells (sesL s1 (.slice A5 n1 k5)).toArray 76))
  have hz6 : (w5.alloc (.cells (sesL s1 (.slice A5 n1 k5)).toArray 76)).heap.size = w5.heap.size + 1 := World.size_alloc ..
  generalize w5.alloc (.cells (sesL s1 (.slice A5 n1 k5)).toArray 76) = w6 at HT6 HO6 HBk6 HB6 HM6 HW6 hz6 ⊢
  obtain ⟨ga, hga⟩ : ∃ g, g = w5.heap.size := ⟨_, rfl⟩
  rw [← hga] at HT6 hz6 ⊢
  have hga1 : w5.heap.size ≤ ga := by omega
  clear hga HO5 HBk5 HB5 HM5 HW5
  have hz7a : w2.heap.size ≤ w6.heap.size := by omega
  have b0 : (c : Int) = 0 ∨ ¬ (c : Int) = 0 := by omega
  clear HLd HOk1 hz6 hz5 hz4 hz3 hga1
  go_wp2_with (first | (refine wpList_load_on rfl _ _ rfl w.heap.size rfl 76 _ (0, 0) _ HB6.out Try.underlying76 rfl size_ses ?_) | (refine wpList_load_on rfl _ _ rfl ga rfl 76 _ (0, 0) _ HT6.out Try.underlying76 rfl size_ses ?_))
  refine (samesession_any s1 A1 A5 n1 k1 k5 ms1 w6 (HM6.out.up hz7a) (own_mvs HO6.out)).mono ?_
  rintro e w7 ⟨rfl, hb7⟩
  have HBk7 := Lib.hid (HBk6.out.below hb7 HBk6.out.lt)
  have HW7 := Lib.hid (HW6.out.trans (hb7.mono HW6.out.size))
  have hgb7 := HBk7.out.lt
  have hgbw : w.heap.size ≤ gb := by omega
  clear hb7 HBk6 HW6 HT6 HO6 HB6 HM6 hz7a b0 hgb3 hgb hgl2
  have hsplit : at_ < 0 ∨ 0 ≤ at_ := by omega
  by_cases hc0 : c = 0
  case pos =>
    subst hc0
    go_upto_region 10 with fail
    obtain ⟨C, hC⟩ : ∃ C : Nat, (1 : Int) = (C : Int) := ⟨1, rfl⟩
    rw [show Value.int .u32 1 = Value.int .u32 (C : Int) from by rw [hC]]
    have HCs : Hid (0 < C ∧ C < 4294967296) := by constructor <;> omega
    clear hC
    rcases hsplit with hneg | hneg
    · have b1 : decide (at_ < 0) = true := by simp [hneg]
      have b2 := HAt.out.1
      have b3 := HAt.out.2
      go_upto_region 12 with fail
      obtain ⟨a, ha⟩ : ∃ a : Nat, -(at_ + 1) = (a : Int) := ⟨(-(at_ + 1)).toNat, by omega⟩
      rw [ha]
      have hab : a ≤ 9223372036854775807 := by omega
      clear ha b1 b2 b3 hneg
      have hC2 : C < 4294967296 := HCs.out.2
      obtain ⟨P, hP⟩ : ∃ P, P = a % (N - 3) := ⟨_, rfl⟩
      have hPN : P + 4 ≤ N := by
        have := Nat.mod_lt a (show 0 < N - 3 by omega)
        omega
      have b1 : Int.tmod (a : Int) ((N : Int) - 3) = (P : Int) := by rw [hP]; exact tmod_nat a N (by omega)
      have b2 : ((N : Int) - 3 == 0) = false := by simp; omega
      have b3 : ¬ ((N : Int) - 3 = 0) := by omega
      clear hP
      go_wp2_with fail
      clear b1 b2 b3 hab
      go_loopg [10] 4 (fun gk i wr => ∃ (q : Nat) (cs : List Value), q + gk = 4 ∧ i = .int .i64 q ∧ Hid (Blk wr gb 5 cs) ∧ Hid (cs.length = kb) ∧ Hid (cs.take N = u8s (xrL I P C q)) ∧ Hid (Below w.heap.size w wr))
      case atStart => exact ⟨0, csb, by omega, rfl, HBk7, HCl, HTk, HW7⟩
      case round =>
        obtain ⟨q, cs, hq, rfl, HK, HL, HT, HW⟩ := hrel
        by_cases hlt : q < 4
        · obtain ⟨x, hx⟩ := xr_get (l := I) (a := P) (c := C) (j := P + q) q (by rw [← HNl.out]; omega)
          have hx8 := xrL_lt HIb.out P C q x (List.mem_of_getElem? hx)
          have HX := Lib.hid hx
          clear hx
          have hq4 : q = 0 ∨ q = 1 ∨ q = 2 ∨ q = 3 := by omega
          rcases hq4 with rfl | rfl | rfl | rfl
          · have cx : wr.cell? ⟨gb, P, none⟩ = some (.int .u8 x) := HK.out.cell (take_cell HT.out HX.out (by omega))
            have fx := HK.out.frozen (P)
            have hgl := HK.out.lt
            have e1 : (P : Int) < N := by omega
            have e2 : (0 : Int) ≤ (P : Int) := by omega
            have e3 : IntKind.i64.wrap ((P : Int)) = (P : Int) := IntWalk.i64_in _ (by omega)
            have e4 : ((P : Int)).toNat = P := by omega
            have e5 : IntKind.i64.wrap 0 = 0 := by decide
            have x1 : IntKind.u8.wrap ((C : Int)) = (C : Int) % 256 := IntKind.wrap_u8' _
            have x2 : bits .xor .u8 (x : Int) ((C : Int) % 256) = ((x ^^^ (C % 256) : Nat) : Int) := by
              rw [show (C : Int) % 256 = ((C % 256 : Nat) : Int) by omega]
              exact u8_xor_nat x (C % 256) hx8 (by omega)
            go_upto_region 16 with fail
            go_still_tail 13, (by kernel_rfl)
            change wpList _ _ _ _ _ wr.drew
            have HK2 : Hid (Blk wr.drew gb 5 cs) := HK.out
            have HW2 := Lib.hid HW.out.drew
            have cx2 : (wr.drew).cell? ⟨gb, P, none⟩ = some (.int .u8 x) := HK2.out.cell (take_cell HT.out HX.out (by omega))
            have fx2 : (wr.drew).frozen? ⟨gb, P, none⟩ = false := HK2.out.frozen (P)
            have hgl2 := HK2.out.lt
            clear cx fx hgl HK HW
            generalize wr.drew = W2 at HK2 HW2 cx2 fx2 hgl2 ⊢
            go_wp2_with fail
            go_roundg (gk - 1)
            case measure => omega
            case rel =>
              refine ⟨0 + 1, _, by omega, by go_num, HK2.out.set_ (P) _, by rw [List.length_set]; exact HL.out, ?_, HW2.out.setCell (by dsimp only; omega) _⟩
              have h9 := xr_next (q := 0) HT.out HX.out
              rw [show C / 256 ^ 0 % 256 = C % 256 from by rw [Nat.pow_zero, Nat.div_one]] at h9
              exact h9
          · have cx : wr.cell? ⟨gb, P + 1, none⟩ = some (.int .u8 x) := HK.out.cell (take_cell HT.out HX.out (by omega))
            have fx := HK.out.frozen (P + 1)
            have hgl := HK.out.lt
            have e1 : (P : Int) + 1 < N := by omega
            have e2 : (0 : Int) ≤ (P : Int) + 1 := by omega
            have e3 : IntKind.i64.wrap ((P : Int) + 1) = (P : Int) + 1 := IntWalk.i64_in _ (by omega)
            have e4 : ((P : Int) + 1).toNat = P + 1 := by omega
            have e5 : IntKind.i64.wrap 8 = 8 := by decide
            have x1 : IntKind.u8.wrap ((C : Int) / 256) = (C : Int) / 256 % 256 := IntKind.wrap_u8' _
            have x2 : bits .xor .u8 (x : Int) ((C : Int) / 256 % 256) = ((x ^^^ (C / 256 % 256) : Nat) : Int) := by
              rw [show (C : Int) / 256 % 256 = ((C / 256 % 256 : Nat) : Int) by omega]
              exact u8_xor_nat x (C / 256 % 256) hx8 (by omega)
            go_upto_region 16 with fail
            go_still_tail 13, (by kernel_rfl)
            change wpList _ _ _ _ _ wr.drew
            have HK2 : Hid (Blk wr.drew gb 5 cs) := HK.out
            have HW2 := Lib.hid HW.out.drew
            have cx2 : (wr.drew).cell? ⟨gb, P + 1, none⟩ = some (.int .u8 x) := HK2.out.cell (take_cell HT.out HX.out (by omega))
            have fx2 : (wr.drew).frozen? ⟨gb, P + 1, none⟩ = false := HK2.out.frozen (P + 1)
            have hgl2 := HK2.out.lt
            clear cx fx hgl HK HW
            generalize wr.drew = W2 at HK2 HW2 cx2 fx2 hgl2 ⊢
            go_wp2_with fail
            go_roundg (gk - 1)
            case measure => omega
            case rel =>
              refine ⟨1 + 1, _, by omega, by go_num, HK2.out.set_ (P + 1) _, by rw [List.length_set]; exact HL.out, ?_, HW2.out.setCell (by dsimp only; omega) _⟩
              have h9 := xr_next (q := 1) HT.out HX.out
              rw [show C / 256 ^ 1 % 256 = C / 256 % 256 from by exact rfl] at h9
              exact h9
          · have cx : wr.cell? ⟨gb, P + 2, none⟩ = some (.int .u8 x) := HK.out.cell (take_cell HT.out HX.out (by omega))
            have fx := HK.out.frozen (P + 2)
            have hgl := HK.out.lt
            have e1 : (P : Int) + 2 < N := by omega
            have e2 : (0 : Int) ≤ (P : Int) + 2 := by omega
            have e3 : IntKind.i64.wrap ((P : Int) + 2) = (P : Int) + 2 := IntWalk.i64_in _ (by omega)
            have e4 : ((P : Int) + 2).toNat = P + 2 := by omega
            have e5 : IntKind.i64.wrap 16 = 16 := by decide
            have x1 : IntKind.u8.wrap ((C : Int) / 65536) = (C : Int) / 65536 % 256 := IntKind.wrap_u8' _
            have x2 : bits .xor .u8 (x : Int) ((C : Int) / 65536 % 256) = ((x ^^^ (C / 65536 % 256) : Nat) : Int) := by
              rw [show (C : Int) / 65536 % 256 = ((C / 65536 % 256 : Nat) : Int) by omega]
              exact u8_xor_nat x (C / 65536 % 256) hx8 (by omega)
            go_upto_region 16 with fail
            go_still_tail 13, (by kernel_rfl)
            change wpList _ _ _ _ _ wr.drew
            have HK2 : Hid (Blk wr.drew gb 5 cs) := HK.out
            have HW2 := Lib.hid HW.out.drew
            have cx2 : (wr.drew).cell? ⟨gb, P + 2, none⟩ = some (.int .u8 x) := HK2.out.cell (take_cell HT.out HX.out (by omega))
            have fx2 : (wr.drew).frozen? ⟨gb, P + 2, none⟩ = false := HK2.out.frozen (P + 2)
            have hgl2 := HK2.out.lt
            clear cx fx hgl HK HW
            generalize wr.drew = W2 at HK2 HW2 cx2 fx2 hgl2 ⊢
            go_wp2_with fail
            go_roundg (gk - 1)
            case measure => omega
            case rel =>
              refine ⟨2 + 1, _, by omega, by go_num, HK2.out.set_ (P + 2) _, by rw [List.length_set]; exact HL.out, ?_, HW2.out.setCell (by dsimp only; omega) _⟩
              have h9 := xr_next (q := 2) HT.out HX.out
              rw [show C / 256 ^ 2 % 256 = C / 65536 % 256 from by exact rfl] at h9
              exact h9
          · have cx : wr.cell? ⟨gb, P + 3, none⟩ = some (.int .u8 x) := HK.out.cell (take_cell HT.out HX.out (by omega))
            have fx := HK.out.frozen (P + 3)
            have hgl := HK.out.lt
            have e1 : (P : Int) + 3 < N := by omega
            have e2 : (0 : Int) ≤ (P : Int) + 3 := by omega
            have e3 : IntKind.i64.wrap ((P : Int) + 3) = (P : Int) + 3 := IntWalk.i64_in _ (by omega)
            have e4 : ((P : Int) + 3).toNat = P + 3 := by omega
            have e5 : IntKind.i64.wrap 24 = 24 := by decide
            have x1 : IntKind.u8.wrap ((C : Int) / 16777216) = (C : Int) / 16777216 % 256 := IntKind.wrap_u8' _
            have x2 : bits .xor .u8 (x : Int) ((C : Int) / 16777216 % 256) = ((x ^^^ (C / 16777216 % 256) : Nat) : Int) := by
              rw [show (C : Int) / 16777216 % 256 = ((C / 16777216 % 256 : Nat) : Int) by omega]
              exact u8_xor_nat x (C / 16777216 % 256) hx8 (by omega)
            go_upto_region 16 with fail
            go_still_tail 13, (by kernel_rfl)
            change wpList _ _ _ _ _ wr.drew
            have HK2 : Hid (Blk wr.drew gb 5 cs) := HK.out
            have HW2 := Lib.hid HW.out.drew
            have cx2 : (wr.drew).cell? ⟨gb, P + 3, none⟩ = some (.int .u8 x) := HK2.out.cell (take_cell HT.out HX.out (by omega))
            have fx2 : (wr.drew).frozen? ⟨gb, P + 3, none⟩ = false := HK2.out.frozen (P + 3)
            have hgl2 := HK2.out.lt
            clear cx fx hgl HK HW
            generalize wr.drew = W2 at HK2 HW2 cx2 fx2 hgl2 ⊢
            go_wp2_with fail
            go_roundg (gk - 1)
            case measure => omega
            case rel =>
              refine ⟨3 + 1, _, by omega, by go_num, HK2.out.set_ (P + 3) _, by rw [List.length_set]; exact HL.out, ?_, HW2.out.setCell (by dsimp only; omega) _⟩
              have h9 := xr_next (q := 3) HT.out HX.out
              rw [show C / 256 ^ 3 % 256 = C / 16777216 % 256 from by exact rfl] at h9
              exact h9
        · obtain rfl : q = 4 := by omega
          have hll : (xrL I P C 4).length = N := by rw [xrL_len]; exact HNl.out.symm
          have hLL := load_unfit (l := xrL I P C 4) (by omega) (by omega) (xr_unfit HIb.out HFit.out (by rw [← HNl.out]; omega) HCs.out)
          have HLa : Hid (Calls Try.prog 39 #[.slice (some ⟨gb, 0, none⟩) N kb] wr (LdR (loadP (xrL I P C 4)) wr)) :=
            pload_any _ N kb _ wr (HK.out.slb HL.out hNk HT.out) ⟨hNk, hkm⟩ (xrL_lt HIb.out P C 4)
          clear hll
          rcases hLL with h9 | h9
          · have HP : Hid (Calls Try.prog 39 #[.slice (some ⟨gb, 0, none⟩) N kb] wr (LdR (noLd 281) wr)) := by rw [← h9]; exact HLa.out
            clear HLa h9
            go_wp2_with fail
            refine HP.out.mono ?_
            rintro e wz ⟨Az, kz, rfl, -, hbz⟩
            go_wp2_with fail
            go_ret
            exact ⟨rfl, HW.out.trans (hbz.mono HW.out.size)⟩
          · have HP : Hid (Calls Try.prog 39 #[.slice (some ⟨gb, 0, none⟩) N kb] wr (LdR (noLd 282) wr)) := by rw [← h9]; exact HLa.out
            clear HLa h9
            go_wp2_with fail
            refine HP.out.mono ?_
            rintro e wz ⟨Az, kz, rfl, -, hbz⟩
            go_wp2_with fail
            go_ret
            exact ⟨rfl, HW.out.trans (hbz.mono HW.out.size)⟩
    · have b1 : decide (at_ < 0) = false := by simp; omega
      have b2 : ¬ at_ < 0 := by omega
      have b3 := HAt.out.2
      obtain ⟨a, rfl⟩ : ∃ a : Nat, at_ = (a : Int) := ⟨at_.toNat, by omega⟩
      go_upto_region 12 with fail
      have hab : a ≤ 9223372036854775807 := by omega
      clear b1 b2 b3 hneg
      have hC2 : C < 4294967296 := HCs.out.2
      obtain ⟨P, hP⟩ : ∃ P, P = a % (N - 3) := ⟨_, rfl⟩
      have hPN : P + 4 ≤ N := by
        have := Nat.mod_lt a (show 0 < N - 3 by omega)
        omega
      have b1 : Int.tmod (a : Int) ((N : Int) - 3) = (P : Int) := by rw [hP]; exact tmod_nat a N (by omega)
      have b2 : ((N : Int) - 3 == 0) = false := by simp; omega
      have b3 : ¬ ((N : Int) - 3 = 0) := by omega
      clear hP
      go_wp2_with fail
      clear b1 b2 b3 hab
      go_loopg [10] 4 (fun gk i wr => ∃ (q : Nat) (cs : List Value), q + gk = 4 ∧ i = .int .i64 q ∧ Hid (Blk wr gb 5 cs) ∧ Hid (cs.length = kb) ∧ Hid (cs.take N = u8s (xrL I P C q)) ∧ Hid (Below w.heap.size w wr))
      case atStart => exact ⟨0, csb, by omega, rfl, HBk7, HCl, HTk, HW7⟩
      case round =>
        obtain ⟨q, cs, hq, rfl, HK, HL, HT, HW⟩ := hrel
        by_cases hlt : q < 4
        · obtain ⟨x, hx⟩ := xr_get (l := I) (a := P) (c := C) (j := P + q) q (by rw [← HNl.out]; omega)
          have hx8 := xrL_lt HIb.out P C q x (List.mem_of_getElem? hx)
          have HX := Lib.hid hx
          clear hx
          have hq4 : q = 0 ∨ q = 1 ∨ q = 2 ∨ q = 3 := by omega
          rcases hq4 with rfl | rfl | rfl | rfl
          · have cx : wr.cell? ⟨gb, P, none⟩ = some (.int .u8 x) := HK.out.cell (take_cell HT.out HX.out (by omega))
            have fx := HK.out.frozen (P)
            have hgl := HK.out.lt
            have e1 : (P : Int) < N := by omega
            have e2 : (0 : Int) ≤ (P : Int) := by omega
            have e3 : IntKind.i64.wrap ((P : Int)) = (P : Int) := IntWalk.i64_in _ (by omega)
            have e4 : ((P : Int)).toNat = P := by omega
            have e5 : IntKind.i64.wrap 0 = 0 := by decide
            have x1 : IntKind.u8.wrap ((C : Int)) = (C : Int) % 256 := IntKind.wrap_u8' _
            have x2 : bits .xor .u8 (x : Int) ((C : Int) % 256) = ((x ^^^ (C % 256) : Nat) : Int) := by
              rw [show (C : Int) % 256 = ((C % 256 : Nat) : Int) by omega]
              exact u8_xor_nat x (C % 256) hx8 (by omega)
            go_upto_region 16 with fail
            go_still_tail 13, (by kernel_rfl)
            change wpList _ _ _ _ _ wr.drew
            have HK2 : Hid (Blk wr.drew gb 5 cs) := HK.out
            have HW2 := Lib.hid HW.out.drew
            have cx2 : (wr.drew).cell? ⟨gb, P, none⟩ = some (.int .u8 x) := HK2.out.cell (take_cell HT.out HX.out (by omega))
            have fx2 : (wr.drew).frozen? ⟨gb, P, none⟩ = false := HK2.out.frozen (P)
            have hgl2 := HK2.out.lt
            clear cx fx hgl HK HW
            generalize wr.drew = W2 at HK2 HW2 cx2 fx2 hgl2 ⊢
            go_wp2_with fail
            go_roundg (gk - 1)
            case measure => omega
            case rel =>
              refine ⟨0 + 1, _, by omega, by go_num, HK2.out.set_ (P) _, by rw [List.length_set]; exact HL.out, ?_, HW2.out.setCell (by dsimp only; omega) _⟩
              have h9 := xr_next (q := 0) HT.out HX.out
              rw [show C / 256 ^ 0 % 256 = C % 256 from by rw [Nat.pow_zero, Nat.div_one]] at h9
              exact h9
          · have cx : wr.cell? ⟨gb, P + 1, none⟩ = some (.int .u8 x) := HK.out.cell (take_cell HT.out HX.out (by omega))
            have fx := HK.out.frozen (P + 1)
            have hgl := HK.out.lt
            have e1 : (P : Int) + 1 < N := by omega
            have e2 : (0 : Int) ≤ (P : Int) + 1 := by omega
            have e3 : IntKind.i64.wrap ((P : Int) + 1) = (P : Int) + 1 := IntWalk.i64_in _ (by omega)
            have e4 : ((P : Int) + 1).toNat = P + 1 := by omega
            have e5 : IntKind.i64.wrap 8 = 8 := by decide
            have x1 : IntKind.u8.wrap ((C : Int) / 256) = (C : Int) / 256 % 256 := IntKind.wrap_u8' _
            have x2 : bits .xor .u8 (x : Int) ((C : Int) / 256 % 256) = ((x ^^^ (C / 256 % 256) : Nat) : Int) := by
              rw [show (C : Int) / 256 % 256 = ((C / 256 % 256 : Nat) : Int) by omega]
              exact u8_xor_nat x (C / 256 % 256) hx8 (by omega)
            go_upto_region 16 with fail
            go_still_tail 13, (by kernel_rfl)
            change wpList _ _ _ _ _ wr.drew
            have HK2 : Hid (Blk wr.drew gb 5 cs) := HK.out
            have HW2 := Lib.hid HW.out.drew
            have cx2 : (wr.drew).cell? ⟨gb, P + 1, none⟩ = some (.int .u8 x) := HK2.out.cell (take_cell HT.out HX.out (by omega))
            have fx2 : (wr.drew).frozen? ⟨gb, P + 1, none⟩ = false := HK2.out.frozen (P + 1)
            have hgl2 := HK2.out.lt
            clear cx fx hgl HK HW
            generalize wr.drew = W2 at HK2 HW2 cx2 fx2 hgl2 ⊢
            go_wp2_with fail
            go_roundg (gk - 1)
            case measure => omega
            case rel =>
              refine ⟨1 + 1, _, by omega, by go_num, HK2.out.set_ (P + 1) _, by rw [List.length_set]; exact HL.out, ?_, HW2.out.setCell (by dsimp only; omega) _⟩
              have h9 := xr_next (q := 1) HT.out HX.out
              rw [show C / 256 ^ 1 % 256 = C / 256 % 256 from by exact rfl] at h9
              exact h9
          · have cx : wr.cell? ⟨gb, P + 2, none⟩ = some (.int .u8 x) := HK.out.cell (take_cell HT.out HX.out (by omega))
            have fx := HK.out.frozen (P + 2)
            have hgl := HK.out.lt
            have e1 : (P : Int) + 2 < N := by omega
            have e2 : (0 : Int) ≤ (P : Int) + 2 := by omega
            have e3 : IntKind.i64.wrap ((P : Int) + 2) = (P : Int) + 2 := IntWalk.i64_in _ (by omega)
            have e4 : ((P : Int) + 2).toNat = P + 2 := by omega
            have e5 : IntKind.i64.wrap 16 = 16 := by decide
            have x1 : IntKind.u8.wrap ((C : Int) / 65536) = (C : Int) / 65536 % 256 := IntKind.wrap_u8' _
            have x2 : bits .xor .u8 (x : Int) ((C : Int) / 65536 % 256) = ((x ^^^ (C / 65536 % 256) : Nat) : Int) := by
              rw [show (C : Int) / 65536 % 256 = ((C / 65536 % 256 : Nat) : Int) by omega]
              exact u8_xor_nat x (C / 65536 % 256) hx8 (by omega)
            go_upto_region 16 with fail
            go_still_tail 13, (by kernel_rfl)
            change wpList _ _ _ _ _ wr.drew
            have HK2 : Hid (Blk wr.drew gb 5 cs) := HK.out
            have HW2 := Lib.hid HW.out.drew
            have cx2 : (wr.drew).cell? ⟨gb, P + 2, none⟩ = some (.int .u8 x) := HK2.out.cell (take_cell HT.out HX.out (by omega))
            have fx2 : (wr.drew).frozen? ⟨gb, P + 2, none⟩ = false := HK2.out.frozen (P + 2)
            have hgl2 := HK2.out.lt
            clear cx fx hgl HK HW
            generalize wr.drew = W2 at HK2 HW2 cx2 fx2 hgl2 ⊢
            go_wp2_with fail
            go_roundg (gk - 1)
            case measure => omega
            case rel =>
              refine ⟨2 + 1, _, by omega, by go_num, HK2.out.set_ (P + 2) _, by rw [List.length_set]; exact HL.out, ?_, HW2.out.setCell (by dsimp only; omega) _⟩
              have h9 := xr_next (q := 2) HT.out HX.out
              rw [show C / 256 ^ 2 % 256 = C / 65536 % 256 from by exact rfl] at h9
              exact h9
          · have cx : wr.cell? ⟨gb, P + 3, none⟩ = some (.int .u8 x) := HK.out.cell (take_cell HT.out HX.out (by omega))
            have fx := HK.out.frozen (P + 3)
            have hgl := HK.out.lt
            have e1 : (P : Int) + 3 < N := by omega
            have e2 : (0 : Int) ≤ (P : Int) + 3 := by omega
            have e3 : IntKind.i64.wrap ((P : Int) + 3) = (P : Int) + 3 := IntWalk.i64_in _ (by omega)
            have e4 : ((P : Int) + 3).toNat = P + 3 := by omega
            have e5 : IntKind.i64.wrap 24 = 24 := by decide
            have x1 : IntKind.u8.wrap ((C : Int) / 16777216) = (C : Int) / 16777216 % 256 := IntKind.wrap_u8' _
            have x2 : bits .xor .u8 (x : Int) ((C : Int) / 16777216 % 256) = ((x ^^^ (C / 16777216 % 256) : Nat) : Int) := by
              rw [show (C : Int) / 16777216 % 256 = ((C / 16777216 % 256 : Nat) : Int) by omega]
              exact u8_xor_nat x (C / 16777216 % 256) hx8 (by omega)
            go_upto_region 16 with fail
            go_still_tail 13, (by kernel_rfl)
            change wpList _ _ _ _ _ wr.drew
            have HK2 : Hid (Blk wr.drew gb 5 cs) := HK.out
            have HW2 := Lib.hid HW.out.drew
            have cx2 : (wr.drew).cell? ⟨gb, P + 3, none⟩ = some (.int .u8 x) := HK2.out.cell (take_cell HT.out HX.out (by omega))
            have fx2 : (wr.drew).frozen? ⟨gb, P + 3, none⟩ = false := HK2.out.frozen (P + 3)
            have hgl2 := HK2.out.lt
            clear cx fx hgl HK HW
            generalize wr.drew = W2 at HK2 HW2 cx2 fx2 hgl2 ⊢
            go_wp2_with fail
            go_roundg (gk - 1)
            case measure => omega
            case rel =>
              refine ⟨3 + 1, _, by omega, by go_num, HK2.out.set_ (P + 3) _, by rw [List.length_set]; exact HL.out, ?_, HW2.out.setCell (by dsimp only; omega) _⟩
              have h9 := xr_next (q := 3) HT.out HX.out
              rw [show C / 256 ^ 3 % 256 = C / 16777216 % 256 from by exact rfl] at h9
              exact h9
        · obtain rfl : q = 4 := by omega
          have hll : (xrL I P C 4).length = N := by rw [xrL_len]; exact HNl.out.symm
          have hLL := load_unfit (l := xrL I P C 4) (by omega) (by omega) (xr_unfit HIb.out HFit.out (by rw [← HNl.out]; omega) HCs.out)
          have HLa : Hid (Calls Try.prog 39 #[.slice (some ⟨gb, 0, none⟩) N kb] wr (LdR (loadP (xrL I P C 4)) wr)) :=
            pload_any _ N kb _ wr (HK.out.slb HL.out hNk HT.out) ⟨hNk, hkm⟩ (xrL_lt HIb.out P C 4)
          clear hll
          rcases hLL with h9 | h9
          · have HP : Hid (Calls Try.prog 39 #[.slice (some ⟨gb, 0, none⟩) N kb] wr (LdR (noLd 281) wr)) := by rw [← h9]; exact HLa.out
            clear HLa h9
            go_wp2_with fail
            refine HP.out.mono ?_
            rintro e wz ⟨Az, kz, rfl, -, hbz⟩
            go_wp2_with fail
            go_ret
            exact ⟨rfl, HW.out.trans (hbz.mono HW.out.size)⟩
          · have HP : Hid (Calls Try.prog 39 #[.slice (some ⟨gb, 0, none⟩) N kb] wr (LdR (noLd 282) wr)) := by rw [← h9]; exact HLa.out
            clear HLa h9
            go_wp2_with fail
            refine HP.out.mono ?_
            rintro e wz ⟨Az, kz, rfl, -, hbz⟩
            go_wp2_with fail
            go_ret
            exact ⟨rfl, HW.out.trans (hbz.mono HW.out.size)⟩
  have b1 : ((c : Int) == 0) = false := by simp [hc0]
  have b2 : ¬ (c : Int) = 0 := by omega
  go_upto_region 10 with fail
  clear b1 b2
  have HCs0 : Hid (0 < c ∧ c < 4294967296) := ⟨by omega, HC.out⟩
  clear hc0 HC
  obtain ⟨C, rfl⟩ : ∃ C : Nat, C = c := ⟨_, rfl⟩
  have HCs := Lib.hid HCs0.out
  clear HCs0
  rcases hsplit with hneg | hneg
  · have b1 : decide (at_ < 0) = true := by simp [hneg]
    have b2 := HAt.out.1
    have b3 := HAt.out.2
    go_upto_region 12 with fail
    obtain ⟨a, ha⟩ : ∃ a : Nat, -(at_ + 1) = (a : Int) := ⟨(-(at_ + 1)).toNat, by omega⟩
    rw [ha]
    have hab : a ≤ 9223372036854775807 := by omega
    clear ha b1 b2 b3 hneg
    have hC2 : C < 4294967296 := HCs.out.2
    obtain ⟨P, hP⟩ : ∃ P, P = a % (N - 3) := ⟨_, rfl⟩
    have hPN : P + 4 ≤ N := by
      have := Nat.mod_lt a (show 0 < N - 3 by omega)
      omega
    have b1 : Int.tmod (a : Int) ((N : Int) - 3) = (P : Int) := by rw [hP]; exact tmod_nat a N (by omega)
    have b2 : ((N : Int) - 3 == 0) = false := by simp; omega
    have b3 : ¬ ((N : Int) - 3 = 0) := by omega
    clear hP
    go_wp2_with fail
    clear b1 b2 b3 hab
    go_loopg [10] 4 (fun gk i wr => ∃ (q : Nat) (cs : List Value), q + gk = 4 ∧ i = .int .i64 q ∧ Hid (Blk wr gb 5 cs) ∧ Hid (cs.length = kb) ∧ Hid (cs.take N = u8s (xrL I P C q)) ∧ Hid (Below w.heap.size w wr))
    case atStart => exact ⟨0, csb, by omega, rfl, HBk7, HCl, HTk, HW7⟩
    case round =>
      obtain ⟨q, cs, hq, rfl, HK, HL, HT, HW⟩ := hrel
      by_cases hlt : q < 4
      · obtain ⟨x, hx⟩ := xr_get (l := I) (a := P) (c := C) (j := P + q) q (by rw [← HNl.out]; omega)
        have hx8 := xrL_lt HIb.out P C q x (List.mem_of_getElem? hx)
        have HX := Lib.hid hx
        clear hx
        have hq4 : q = 0 ∨ q = 1 ∨ q = 2 ∨ q = 3 := by omega
        rcases hq4 with rfl | rfl | rfl | rfl
        · have cx : wr.cell? ⟨gb, P, none⟩ = some (.int .u8 x) := HK.out.cell (take_cell HT.out HX.out (by omega))
          have fx := HK.out.frozen (P)
          have hgl := HK.out.lt
          have e1 : (P : Int) < N := by omega
          have e2 : (0 : Int) ≤ (P : Int) := by omega
          have e3 : IntKind.i64.wrap ((P : Int)) = (P : Int) := IntWalk.i64_in _ (by omega)
          have e4 : ((P : Int)).toNat = P := by omega
          have e5 : IntKind.i64.wrap 0 = 0 := by decide
          have x1 : IntKind.u8.wrap ((C : Int)) = (C : Int) % 256 := IntKind.wrap_u8' _
          have x2 : bits .xor .u8 (x : Int) ((C : Int) % 256) = ((x ^^^ (C % 256) : Nat) : Int) := by
            rw [show (C : Int) % 256 = ((C % 256 : Nat) : Int) by omega]
            exact u8_xor_nat x (C % 256) hx8 (by omega)
          go_upto_region 16 with fail
          go_still_tail 13, (by kernel_rfl)
          change wpList _ _ _ _ _ wr.drew
          have HK2 : Hid (Blk wr.drew gb 5 cs) := HK.out
          have HW2 := Lib.hid HW.out.drew
          have cx2 : (wr.drew).cell? ⟨gb, P, none⟩ = some (.int .u8 x) := HK2.out.cell (take_cell HT.out HX.out (by omega))
          have fx2 : (wr.drew).frozen? ⟨gb, P, none⟩ = false := HK2.out.frozen (P)
          have hgl2 := HK2.out.lt
          clear cx fx hgl HK HW
          generalize wr.drew = W2 at HK2 HW2 cx2 fx2 hgl2 ⊢
          go_wp2_with fail
          go_roundg (gk - 1)
          case measure => omega
          case rel =>
            refine ⟨0 + 1, _, by omega, by go_num, HK2.out.set_ (P) _, by rw [List.length_set]; exact HL.out, ?_, HW2.out.setCell (by dsimp only; omega) _⟩
            have h9 := xr_next (q := 0) HT.out HX.out
            rw [show C / 256 ^ 0 % 256 = C % 256 from by rw [Nat.pow_zero, Nat.div_one]] at h9
            exact h9
        · have cx : wr.cell? ⟨gb, P + 1, none⟩ = some (.int .u8 x) := HK.out.cell (take_cell HT.out HX.out (by omega))
          have fx := HK.out.frozen (P + 1)
          have hgl := HK.out.lt
          have e1 : (P : Int) + 1 < N := by omega
          have e2 : (0 : Int) ≤ (P : Int) + 1 := by omega
          have e3 : IntKind.i64.wrap ((P : Int) + 1) = (P : Int) + 1 := IntWalk.i64_in _ (by omega)
          have e4 : ((P : Int) + 1).toNat = P + 1 := by omega
          have e5 : IntKind.i64.wrap 8 = 8 := by decide
          have x1 : IntKind.u8.wrap ((C : Int) / 256) = (C : Int) / 256 % 256 := IntKind.wrap_u8' _
          have x2 : bits .xor .u8 (x : Int) ((C : Int) / 256 % 256) = ((x ^^^ (C / 256 % 256) : Nat) : Int) := by
            rw [show (C : Int) / 256 % 256 = ((C / 256 % 256 : Nat) : Int) by omega]
            exact u8_xor_nat x (C / 256 % 256) hx8 (by omega)
          go_upto_region 16 with fail
          go_still_tail 13, (by kernel_rfl)
          change wpList _ _ _ _ _ wr.drew
          have HK2 : Hid (Blk wr.drew gb 5 cs) := HK.out
          have HW2 := Lib.hid HW.out.drew
          have cx2 : (wr.drew).cell? ⟨gb, P + 1, none⟩ = some (.int .u8 x) := HK2.out.cell (take_cell HT.out HX.out (by omega))
          have fx2 : (wr.drew).frozen? ⟨gb, P + 1, none⟩ = false := HK2.out.frozen (P + 1)
          have hgl2 := HK2.out.lt
          clear cx fx hgl HK HW
          generalize wr.drew = W2 at HK2 HW2 cx2 fx2 hgl2 ⊢
          go_wp2_with fail
          go_roundg (gk - 1)
          case measure => omega
          case rel =>
            refine ⟨1 + 1, _, by omega, by go_num, HK2.out.set_ (P + 1) _, by rw [List.length_set]; exact HL.out, ?_, HW2.out.setCell (by dsimp only; omega) _⟩
            have h9 := xr_next (q := 1) HT.out HX.out
            rw [show C / 256 ^ 1 % 256 = C / 256 % 256 from by exact rfl] at h9
            exact h9
        · have cx : wr.cell? ⟨gb, P + 2, none⟩ = some (.int .u8 x) := HK.out.cell (take_cell HT.out HX.out (by omega))
          have fx := HK.out.frozen (P + 2)
          have hgl := HK.out.lt
          have e1 : (P : Int) + 2 < N := by omega
          have e2 : (0 : Int) ≤ (P : Int) + 2 := by omega
          have e3 : IntKind.i64.wrap ((P : Int) + 2) = (P : Int) + 2 := IntWalk.i64_in _ (by omega)
          have e4 : ((P : Int) + 2).toNat = P + 2 := by omega
          have e5 : IntKind.i64.wrap 16 = 16 := by decide
          have x1 : IntKind.u8.wrap ((C : Int) / 65536) = (C : Int) / 65536 % 256 := IntKind.wrap_u8' _
          have x2 : bits .xor .u8 (x : Int) ((C : Int) / 65536 % 256) = ((x ^^^ (C / 65536 % 256) : Nat) : Int) := by
            rw [show (C : Int) / 65536 % 256 = ((C / 65536 % 256 : Nat) : Int) by omega]
            exact u8_xor_nat x (C / 65536 % 256) hx8 (by omega)
          go_upto_region 16 with fail
          go_still_tail 13, (by kernel_rfl)
          change wpList _ _ _ _ _ wr.drew
          have HK2 : Hid (Blk wr.drew gb 5 cs) := HK.out
          have HW2 := Lib.hid HW.out.drew
          have cx2 : (wr.drew).cell? ⟨gb, P + 2, none⟩ = some (.int .u8 x) := HK2.out.cell (take_cell HT.out HX.out (by omega))
          have fx2 : (wr.drew).frozen? ⟨gb, P + 2, none⟩ = false := HK2.out.frozen (P + 2)
          have hgl2 := HK2.out.lt
          clear cx fx hgl HK HW
          generalize wr.drew = W2 at HK2 HW2 cx2 fx2 hgl2 ⊢
          go_wp2_with fail
          go_roundg (gk - 1)
          case measure => omega
          case rel =>
            refine ⟨2 + 1, _, by omega, by go_num, HK2.out.set_ (P + 2) _, by rw [List.length_set]; exact HL.out, ?_, HW2.out.setCell (by dsimp only; omega) _⟩
            have h9 := xr_next (q := 2) HT.out HX.out
            rw [show C / 256 ^ 2 % 256 = C / 65536 % 256 from by exact rfl] at h9
            exact h9
        · have cx : wr.cell? ⟨gb, P + 3, none⟩ = some (.int .u8 x) := HK.out.cell (take_cell HT.out HX.out (by omega))
          have fx := HK.out.frozen (P + 3)
          have hgl := HK.out.lt
          have e1 : (P : Int) + 3 < N := by omega
          have e2 : (0 : Int) ≤ (P : Int) + 3 := by omega
          have e3 : IntKind.i64.wrap ((P : Int) + 3) = (P : Int) + 3 := IntWalk.i64_in _ (by omega)
          have e4 : ((P : Int) + 3).toNat = P + 3 := by omega
          have e5 : IntKind.i64.wrap 24 = 24 := by decide
          have x1 : IntKind.u8.wrap ((C : Int) / 16777216) = (C : Int) / 16777216 % 256 := IntKind.wrap_u8' _
          have x2 : bits .xor .u8 (x : Int) ((C : Int) / 16777216 % 256) = ((x ^^^ (C / 16777216 % 256) : Nat) : Int) := by
            rw [show (C : Int) / 16777216 % 256 = ((C / 16777216 % 256 : Nat) : Int) by omega]
            exact u8_xor_nat x (C / 16777216 % 256) hx8 (by omega)
          go_upto_region 16 with fail
          go_still_tail 13, (by kernel_rfl)
          change wpList _ _ _ _ _ wr.drew
          have HK2 : Hid (Blk wr.drew gb 5 cs) := HK.out
          have HW2 := Lib.hid HW.out.drew
          have cx2 : (wr.drew).cell? ⟨gb, P + 3, none⟩ = some (.int .u8 x) := HK2.out.cell (take_cell HT.out HX.out (by omega))
          have fx2 : (wr.drew).frozen? ⟨gb, P + 3, none⟩ = false := HK2.out.frozen (P + 3)
          have hgl2 := HK2.out.lt
          clear cx fx hgl HK HW
          generalize wr.drew = W2 at HK2 HW2 cx2 fx2 hgl2 ⊢
          go_wp2_with fail
          go_roundg (gk - 1)
          case measure => omega
          case rel =>
            refine ⟨3 + 1, _, by omega, by go_num, HK2.out.set_ (P + 3) _, by rw [List.length_set]; exact HL.out, ?_, HW2.out.setCell (by dsimp only; omega) _⟩
            have h9 := xr_next (q := 3) HT.out HX.out
            rw [show C / 256 ^ 3 % 256 = C / 16777216 % 256 from by exact rfl] at h9
            exact h9
      · obtain rfl : q = 4 := by omega
        have hll : (xrL I P C 4).length = N := by rw [xrL_len]; exact HNl.out.symm
        have hLL := load_unfit (l := xrL I P C 4) (by omega) (by omega) (xr_unfit HIb.out HFit.out (by rw [← HNl.out]; omega) HCs.out)
        have HLa : Hid (Calls Try.prog 39 #[.slice (some ⟨gb, 0, none⟩) N kb] wr (LdR (loadP (xrL I P C 4)) wr)) :=
          pload_any _ N kb _ wr (HK.out.slb HL.out hNk HT.out) ⟨hNk, hkm⟩ (xrL_lt HIb.out P C 4)
        clear hll
        rcases hLL with h9 | h9
        · have HP : Hid (Calls Try.prog 39 #[.slice (some ⟨gb, 0, none⟩) N kb] wr (LdR (noLd 281) wr)) := by rw [← h9]; exact HLa.out
          clear HLa h9
          go_wp2_with fail
          refine HP.out.mono ?_
          rintro e wz ⟨Az, kz, rfl, -, hbz⟩
          go_wp2_with fail
          go_ret
          exact ⟨rfl, HW.out.trans (hbz.mono HW.out.size)⟩
        · have HP : Hid (Calls Try.prog 39 #[.slice (some ⟨gb, 0, none⟩) N kb] wr (LdR (noLd 282) wr)) := by rw [← h9]; exact HLa.out
          clear HLa h9
          go_wp2_with fail
          refine HP.out.mono ?_
          rintro e wz ⟨Az, kz, rfl, -, hbz⟩
          go_wp2_with fail
          go_ret
          exact ⟨rfl, HW.out.trans (hbz.mono HW.out.size)⟩
  · have b1 : decide (at_ < 0) = false := by simp; omega
    have b2 : ¬ at_ < 0 := by omega
    have b3 := HAt.out.2
    obtain ⟨a, rfl⟩ : ∃ a : Nat, at_ = (a : Int) := ⟨at_.toNat, by omega⟩
    go_upto_region 12 with fail
    have hab : a ≤ 9223372036854775807 := by omega
    clear b1 b2 b3 hneg
    have hC2 : C < 4294967296 := HCs.out.2
    obtain ⟨P, hP⟩ : ∃ P, P = a % (N - 3) := ⟨_, rfl⟩
    have hPN : P + 4 ≤ N := by
      have := Nat.mod_lt a (show 0 < N - 3 by omega)
      omega
    have b1 : Int.tmod (a : Int) ((N : Int) - 3) = (P : Int) := by rw [hP]; exact tmod_nat a N (by omega)
    have b2 : ((N : Int) - 3 == 0) = false := by simp; omega
    have b3 : ¬ ((N : Int) - 3 = 0) := by omega
    clear hP
    go_wp2_with fail
    clear b1 b2 b3 hab
    go_loopg [10] 4 (fun gk i wr => ∃ (q : Nat) (cs : List Value), q + gk = 4 ∧ i = .int .i64 q ∧ Hid (Blk wr gb 5 cs) ∧ Hid (cs.length = kb) ∧ Hid (cs.take N = u8s (xrL I P C q)) ∧ Hid (Below w.heap.size w wr))
    case atStart => exact ⟨0, csb, by omega, rfl, HBk7, HCl, HTk, HW7⟩
    case round =>
      obtain ⟨q, cs, hq, rfl, HK, HL, HT, HW⟩ := hrel
      by_cases hlt : q < 4
      · obtain ⟨x, hx⟩ := xr_get (l := I) (a := P) (c := C) (j := P + q) q (by rw [← HNl.out]; omega)
        have hx8 := xrL_lt HIb.out P C q x (List.mem_of_getElem? hx)
        have HX := Lib.hid hx
        clear hx
        have hq4 : q = 0 ∨ q = 1 ∨ q = 2 ∨ q = 3 := by omega
        rcases hq4 with rfl | rfl | rfl | rfl
        · have cx : wr.cell? ⟨gb, P, none⟩ = some (.int .u8 x) := HK.out.cell (take_cell HT.out HX.out (by omega))
          have fx := HK.out.frozen (P)
          have hgl := HK.out.lt
          have e1 : (P : Int) < N := by omega
          have e2 : (0 : Int) ≤ (P : Int) := by omega
          have e3 : IntKind.i64.wrap ((P : Int)) = (P : Int) := IntWalk.i64_in _ (by omega)
          have e4 : ((P : Int)).toNat = P := by omega
          have e5 : IntKind.i64.wrap 0 = 0 := by decide
          have x1 : IntKind.u8.wrap ((C : Int)) = (C : Int) % 256 := IntKind.wrap_u8' _
          have x2 : bits .xor .u8 (x : Int) ((C : Int) % 256) = ((x ^^^ (C % 256) : Nat) : Int) := by
            rw [show (C : Int) % 256 = ((C % 256 : Nat) : Int) by omega]
            exact u8_xor_nat x (C % 256) hx8 (by omega)
          go_upto_region 16 with fail
          go_still_tail 13, (by kernel_rfl)
          change wpList _ _ _ _ _ wr.drew
          have HK2 : Hid (Blk wr.drew gb 5 cs) := HK.out
          have HW2 := Lib.hid HW.out.drew
          have cx2 : (wr.drew).cell? ⟨gb, P, none⟩ = some (.int .u8 x) := HK2.out.cell (take_cell HT.out HX.out (by omega))
          have fx2 : (wr.drew).frozen? ⟨gb, P, none⟩ = false := HK2.out.frozen (P)
          have hgl2 := HK2.out.lt
          clear cx fx hgl HK HW
          generalize wr.drew = W2 at HK2 HW2 cx2 fx2 hgl2 ⊢
          go_wp2_with fail
          go_roundg (gk - 1)
          case measure => omega
          case rel =>
            refine ⟨0 + 1, _, by omega, by go_num, HK2.out.set_ (P) _, by rw [List.length_set]; exact HL.out, ?_, HW2.out.setCell (by dsimp only; omega) _⟩
            have h9 := xr_next (q := 0) HT.out HX.out
            rw [show C / 256 ^ 0 % 256 = C % 256 from by rw [Nat.pow_zero, Nat.div_one]] at h9
            exact h9
        · have cx : wr.cell? ⟨gb, P + 1, none⟩ = some (.int .u8 x) := HK.out.cell (take_cell HT.out HX.out (by omega))
          have fx := HK.out.frozen (P + 1)
          have hgl := HK.out.lt
          have e1 : (P : Int) + 1 < N := by omega
          have e2 : (0 : Int) ≤ (P : Int) + 1 := by omega
          have e3 : IntKind.i64.wrap ((P : Int) + 1) = (P : Int) + 1 := IntWalk.i64_in _ (by omega)
          have e4 : ((P : Int) + 1).toNat = P + 1 := by omega
          have e5 : IntKind.i64.wrap 8 = 8 := by decide
          have x1 : IntKind.u8.wrap ((C : Int) / 256) = (C : Int) / 256 % 256 := IntKind.wrap_u8' _
          have x2 : bits .xor .u8 (x : Int) ((C : Int) / 256 % 256) = ((x ^^^ (C / 256 % 256) : Nat) : Int) := by
            rw [show (C : Int) / 256 % 256 = ((C / 256 % 256 : Nat) : Int) by omega]
            exact u8_xor_nat x (C / 256 % 256) hx8 (by omega)
          go_upto_region 16 with fail
          go_still_tail 13, (by kernel_rfl)
          change wpList _ _ _ _ _ wr.drew
          have HK2 : Hid (Blk wr.drew gb 5 cs) := HK.out
          have HW2 := Lib.hid HW.out.drew
          have cx2 : (wr.drew).cell? ⟨gb, P + 1, none⟩ = some (.int .u8 x) := HK2.out.cell (take_cell HT.out HX.out (by omega))
          have fx2 : (wr.drew).frozen? ⟨gb, P + 1, none⟩ = false := HK2.out.frozen (P + 1)
          have hgl2 := HK2.out.lt
          clear cx fx hgl HK HW
          generalize wr.drew = W2 at HK2 HW2 cx2 fx2 hgl2 ⊢
          go_wp2_with fail
          go_roundg (gk - 1)
          case measure => omega
          case rel =>
            refine ⟨1 + 1, _, by omega, by go_num, HK2.out.set_ (P + 1) _, by rw [List.length_set]; exact HL.out, ?_, HW2.out.setCell (by dsimp only; omega) _⟩
            have h9 := xr_next (q := 1) HT.out HX.out
            rw [show C / 256 ^ 1 % 256 = C / 256 % 256 from by exact rfl] at h9
            exact h9
        · have cx : wr.cell? ⟨gb, P + 2, none⟩ = some (.int .u8 x) := HK.out.cell (take_cell HT.out HX.out (by omega))
          have fx := HK.out.frozen (P + 2)
          have hgl := HK.out.lt
          have e1 : (P : Int) + 2 < N := by omega
          have e2 : (0 : Int) ≤ (P : Int) + 2 := by omega
          have e3 : IntKind.i64.wrap ((P : Int) + 2) = (P : Int) + 2 := IntWalk.i64_in _ (by omega)
          have e4 : ((P : Int) + 2).toNat = P + 2 := by omega
          have e5 : IntKind.i64.wrap 16 = 16 := by decide
          have x1 : IntKind.u8.wrap ((C : Int) / 65536) = (C : Int) / 65536 % 256 := IntKind.wrap_u8' _
          have x2 : bits .xor .u8 (x : Int) ((C : Int) / 65536 % 256) = ((x ^^^ (C / 65536 % 256) : Nat) : Int) := by
            rw [show (C : Int) / 65536 % 256 = ((C / 65536 % 256 : Nat) : Int) by omega]
            exact u8_xor_nat x (C / 65536 % 256) hx8 (by omega)
          go_upto_region 16 with fail
          go_still_tail 13, (by kernel_rfl)
          change wpList _ _ _ _ _ wr.drew
          have HK2 : Hid (Blk wr.drew gb 5 cs) := HK.out
          have HW2 := Lib.hid HW.out.drew
          have cx2 : (wr.drew).cell? ⟨gb, P + 2, none⟩ = some (.int .u8 x) := HK2.out.cell (take_cell HT.out HX.out (by omega))
          have fx2 : (wr.drew).frozen? ⟨gb, P + 2, none⟩ = false := HK2.out.frozen (P + 2)
          have hgl2 := HK2.out.lt
          clear cx fx hgl HK HW
          generalize wr.drew = W2 at HK2 HW2 cx2 fx2 hgl2 ⊢
          go_wp2_with fail
          go_roundg (gk - 1)
          case measure => omega
          case rel =>
            refine ⟨2 + 1, _, by omega, by go_num, HK2.out.set_ (P + 2) _, by rw [List.length_set]; exact HL.out, ?_, HW2.out.setCell (by dsimp only; omega) _⟩
            have h9 := xr_next (q := 2) HT.out HX.out
            rw [show C / 256 ^ 2 % 256 = C / 65536 % 256 from by exact rfl] at h9
            exact h9
        · have cx : wr.cell? ⟨gb, P + 3, none⟩ = some (.int .u8 x) := HK.out.cell (take_cell HT.out HX.out (by omega))
          have fx := HK.out.frozen (P + 3)
          have hgl := HK.out.lt
          have e1 : (P : Int) + 3 < N := by omega
          have e2 : (0 : Int) ≤ (P : Int) + 3 := by omega
          have e3 : IntKind.i64.wrap ((P : Int) + 3) = (P : Int) + 3 := IntWalk.i64_in _ (by omega)
          have e4 : ((P : Int) + 3).toNat = P + 3 := by omega
          have e5 : IntKind.i64.wrap 24 = 24 := by decide
          have x1 : IntKind.u8.wrap ((C : Int) / 16777216) = (C : Int) / 16777216 % 256 := IntKind.wrap_u8' _
          have x2 : bits .xor .u8 (x : Int) ((C : Int) / 16777216 % 256) = ((x ^^^ (C / 16777216 % 256) : Nat) : Int) := by
            rw [show (C : Int) / 16777216 % 256 = ((C / 16777216 % 256 : Nat) : Int) by omega]
            exact u8_xor_nat x (C / 16777216 % 256) hx8 (by omega)
          go_upto_region 16 with fail
          go_still_tail 13, (by kernel_rfl)
          change wpList _ _ _ _ _ wr.drew
          have HK2 : Hid (Blk wr.drew gb 5 cs) := HK.out
          have HW2 := Lib.hid HW.out.drew
          have cx2 : (wr.drew).cell? ⟨gb, P + 3, none⟩ = some (.int .u8 x) := HK2.out.cell (take_cell HT.out HX.out (by omega))
          have fx2 : (wr.drew).frozen? ⟨gb, P + 3, none⟩ = false := HK2.out.frozen (P + 3)
          have hgl2 := HK2.out.lt
          clear cx fx hgl HK HW
          generalize wr.drew = W2 at HK2 HW2 cx2 fx2 hgl2 ⊢
          go_wp2_with fail
          go_roundg (gk - 1)
          case measure => omega
          case rel =>
            refine ⟨3 + 1, _, by omega, by go_num, HK2.out.set_ (P + 3) _, by rw [List.length_set]; exact HL.out, ?_, HW2.out.setCell (by dsimp only; omega) _⟩
            have h9 := xr_next (q := 3) HT.out HX.out
            rw [show C / 256 ^ 3 % 256 = C / 16777216 % 256 from by exact rfl] at h9
            exact h9
      · obtain rfl : q = 4 := by omega
        have hll : (xrL I P C 4).length = N := by rw [xrL_len]; exact HNl.out.symm
        have hLL := load_unfit (l := xrL I P C 4) (by omega) (by omega) (xr_unfit HIb.out HFit.out (by rw [← HNl.out]; omega) HCs.out)
        have HLa : Hid (Calls Try.prog 39 #[.slice (some ⟨gb, 0, none⟩) N kb] wr (LdR (loadP (xrL I P C 4)) wr)) :=
          pload_any _ N kb _ wr (HK.out.slb HL.out hNk HT.out) ⟨hNk, hkm⟩ (xrL_lt HIb.out P C 4)
        clear hll
        rcases hLL with h9 | h9
        · have HP : Hid (Calls Try.prog 39 #[.slice (some ⟨gb, 0, none⟩) N kb] wr (LdR (noLd 281) wr)) := by rw [← h9]; exact HLa.out
          clear HLa h9
          go_wp2_with fail
          refine HP.out.mono ?_
          rintro e wz ⟨Az, kz, rfl, -, hbz⟩
          go_wp2_with fail
          go_ret
          exact ⟨rfl, HW.out.trans (hbz.mono HW.out.size)⟩
        · have HP : Hid (Calls Try.prog 39 #[.slice (some ⟨gb, 0, none⟩) N kb] wr (LdR (noLd 282) wr)) := by rw [← h9]; exact HLa.out
          clear HLa h9
          go_wp2_with fail
          refine HP.out.mono ?_
          rintro e wz ⟨Az, kz, rfl, -, hbz⟩
          go_wp2_with fail
          go_ret
          exact ⟨rfl, HW.out.trans (hbz.mono HW.out.size)⟩
end Go.Proofs.Ytgbopmgeicokoaa
