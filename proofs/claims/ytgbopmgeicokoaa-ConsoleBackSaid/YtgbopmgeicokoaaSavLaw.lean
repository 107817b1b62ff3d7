/-
  ConsoleSaves: the law's walk.
-/
import Derived.Test.YtgbopmgeicokoaaAw28
namespace Go.Proofs.Ytgbopmgeicokoaa
open Go.RowKit

theorem u8_one {x : Int} : ∀ u ∈ [Value.int .u8 x], u.oneCell' = true := by intro u hu; simp at hu; subst hu; rfl
theorem Sl.pre {w : World} {B sz N n : Nat} {A : Option Addr} {xs ys : List Value} (h : Sl w B sz A N (xs ++ ys)) (hl : xs.length = n * sz) (hn : n ≤ N) : Sl w B sz A n xs := by
  refine ⟨hl, fun h0 => ?_⟩
  obtain ⟨b, o, e, hb, hc⟩ := h.2 (by omega)
  exact ⟨b, o, e, hb, fun j u hu => hc j u (by rw [List.getElem?_append_left (List.getElem?_eq_some_iff.1 hu).1]; exact hu)⟩
/-- a row of bytes by its block -/
theorem Bts.blk {w : World} {B N k : Nat} {A : Option Addr} {l : List Nat} (h : w.ownsRow B 5 1 (.slice A N k) N (u8s l)) (hN : 0 < N) :
    ∃ g cs, A = some ⟨g, 0, none⟩ ∧ B ≤ g ∧ Blk w g 5 cs ∧ cs.length = k ∧ N ≤ k ∧ k ≤ maxLen ∧ cs.take N = u8s l := by
  rcases h.2 with ⟨_, h0⟩ | ⟨g, cap, cur, hv, hB, hg, h1, h2, h3, h4⟩
  · omega
  · injection hv with hA _ hk
    subst hA hk
    refine ⟨g, cur.toList, rfl, hB, ?_, ?_, h1, h2, ?_⟩
    · unfold Blk
      rw [hg]
    · simp [h3]
    · have h5 := h.1
      rw [← h4]
      congr 1
      omega
theorem Blk.bts {w : World} {g B N k : Nat} {cs : List Value} (h : Blk w g 5 cs) (hl : cs.length = k) (hN : N ≤ k) (hk : k ≤ maxLen) (hB : B ≤ g) : w.ownsRow B 5 1 (.slice (some ⟨g, 0, none⟩) N k) N (cs.take N) :=
  ⟨by rw [List.length_take]; omega, Or.inr ⟨g, k, cs.toArray, rfl, hB, h, hN, hk, by simp [hl], by rw [Nat.mul_one]⟩⟩
theorem Blk.slb {w : World} {g N k : Nat} {cs : List Value} {l : List Nat} (h : Blk w g 5 cs) (hl : cs.length = k) (hN : N ≤ k) (ht : cs.take N = u8s l) : Sl w w.heap.size 1 (some ⟨g, 0, none⟩) N (u8s l) := by
  rw [← ht]
  refine ⟨by rw [List.length_take]; omega, fun _ => ⟨g, 0, rfl, h.lt, fun j u hu => ?_⟩⟩
  rw [Nat.zero_add]
  refine h.cell ?_
  rw [List.getElem?_take] at hu
  split at hu
  · exact hu
  · cases hu

set_option maxRecDepth 100000 in
set_option maxHeartbeats 8000000 in
theorem law_saves (s : Ses) (A : Option Addr) (n k : Nat) (ms : List Mv) (A0 : Option Addr) (n0 k0 : Nat) (l : List Nat) (w : World) (h : MvsAt w w.heap.size A n k ms) (hok : ∀ x ∈ ms, MvOk x) (hn : n ≤ 4398046511095)
    (hr : Sl w w.heap.size 1 A0 n0 (u8s l)) (hn0 : n0 ≤ k0 ∧ k0 ≤ maxLen) (hl : ∀ x ∈ l, x < 256) :
    Calls Try.prog 7 #[sesV s (.slice A n k), .slice A0 n0 k0] w (BoolR true w) := by
  obtain ⟨i1, hi1, hi1z, hi1s, hi1b⟩ := info_parts info_u8
  have HLen := Lib.hid h.len
  have HOk := Lib.hid hok
  have HM := Lib.hid h
  have HRaw := Lib.hid hr
  have HN0 := Lib.hid hn0
  have HLb := Lib.hid hl
  have hnk := h.nk.1
  have HNn := Lib.hid hn
  clear hn
  have HB0 : Hid (Blk (w.alloc (.cells #[.int .i64 s.kind, .int .i64 s.cfg.threads, .int .i64 s.cfg.records, .int .i64 s.cfg.hazards, .int .i64 s.cfg.retire, .int .i64 s.cfg.cache, .int .i64 s.cfg.slots, .int .i64 s.cfg.buckets, .int .i64 s.rt, .int .i64 s.rc, .int .i64 s.dt, .int .i64 s.dr, .int .i64 s.lt, .int .i64 s.lk, .int .i64 s.st, .int .i64 s.sv, .slice A n k] 76)) w.heap.size 76 (sesL s (.slice A n k))) := Blk.new _ _ _
  have HW0 : Hid (Below w.heap.size w (w.alloc (.cells #[.int .i64 s.kind, .int .i64 s.cfg.threads, .int .i64 s.cfg.records, .int .i64 s.cfg.hazards, .int .i64 s.cfg.retire, .int .i64 s.cfg.cache, .int .i64 s.cfg.slots, .int .i64 s.cfg.buckets, .int .i64 s.rt, .int .i64 s.rc, .int .i64 s.dt, .int .i64 s.dr, .int .i64 s.lt, .int .i64 s.lk, .int .i64 s.st, .int .i64 s.sv, .slice A n k] 76))) := (Below.refl _ _).alloc (Nat.le_refl _) _
  clear h hok hr hn0 hl
  go_enter Try.func7, Try.ntmps7
  go_wp2_with fail
  have HM0 : Hid (MvsAt (w.alloc (.cells #[.int .i64 s.kind, .int .i64 s.cfg.threads, .int .i64 s.cfg.records, .int .i64 s.cfg.hazards, .int .i64 s.cfg.retire, .int .i64 s.cfg.cache, .int .i64 s.cfg.slots, .int .i64 s.cfg.buckets, .int .i64 s.rt, .int .i64 s.rc, .int .i64 s.dt, .int .i64 s.dr, .int .i64 s.lt, .int .i64 s.lk, .int .i64 s.st, .int .i64 s.sv, .slice A n k] 76)) (w.alloc (.cells #[.int .i64 s.kind, .int .i64 s.cfg.threads, .int .i64 s.cfg.records, .int .i64 s.cfg.hazards, .int .i64 s.cfg.retire, .int .i64 s.cfg.cache, .int .i64 s.cfg.slots, .int .i64 s.cfg.buckets, .int .i64 s.rt, .int .i64 s.rc, .int .i64 s.dt, .int .i64 s.dr, .int .i64 s.lt, .int .i64 s.lk, .int .i64 s.st, .int .i64 s.sv, .slice A n k] 76)).heap.size A n k ms) := (HM.out.keep HW0.out).up HW0.out.size
  refine (copied_any s A n k ms _ HM0.out HNn.out).mono ?_
  generalize w.alloc (.cells #[.int .i64 s.kind, .int .i64 s.cfg.threads, .int .i64 s.cfg.records, .int .i64 s.cfg.hazards, .int .i64 s.cfg.retire, .int .i64 s.cfg.cache, .int .i64 s.cfg.slots, .int .i64 s.cfg.buckets, .int .i64 s.rt, .int .i64 s.rc, .int .i64 s.dt, .int .i64 s.dr, .int .i64 s.lt, .int .i64 s.lk, .int .i64 s.st, .int .i64 s.sv, .slice A n k] 76) = w0 at HB0 HW0 HM0 ⊢
  rintro e w1 ⟨A1, k1, rfl, hs1, hb1, hk1, hk2⟩
  have HB1 := Lib.hid (HB0.out.below hb1 HB0.out.lt)
  have HW1 := Lib.hid (HW0.out.trans (hb1.mono HW0.out.size))
  have HS1 := Lib.hid hs1
  have HKm := Lib.hid hk2
  clear hb1 hs1 HM0 hk2
  go_upto_region 2 with fail
  have HB2 : Hid (Blk (w1.alloc (.cells #[.int .i64 s.kind, .int .i64 s.cfg.threads, .int .i64 s.cfg.records, .int .i64 s.cfg.hazards, .int .i64 s.cfg.retire, .int .i64 s.cfg.cache, .int .i64 s.cfg.slots, .int .i64 s.cfg.buckets, .int .i64 s.rt, .int .i64 s.rc, .int .i64 s.dt, .int .i64 s.dr, .int .i64 s.lt, .int .i64 s.lk, .int .i64 s.st, .int .i64 s.sv, .slice A1 n k1] 76)) w.heap.size 76 (sesL s (.slice A n k))) := HB1.out.alloc _
  have HC2 : Hid (Blk (w1.alloc (.cells #[.int .i64 s.kind, .int .i64 s.cfg.threads, .int .i64 s.cfg.records, .int .i64 s.cfg.hazards, .int .i64 s.cfg.retire, .int .i64 s.cfg.cache, .int .i64 s.cfg.slots, .int .i64 s.cfg.buckets, .int .i64 s.rt, .int .i64 s.rc, .int .i64 s.dt, .int .i64 s.dr, .int .i64 s.lt, .int .i64 s.lk, .int .i64 s.st, .int .i64 s.sv, .slice A1 n k1] 76)) w1.heap.size 76 (sesL s (.slice A1 n k1))) := Blk.new _ _ _
  have HW2 : Hid (Below w.heap.size w (w1.alloc (.cells #[.int .i64 s.kind, .int .i64 s.cfg.threads, .int .i64 s.cfg.records, .int .i64 s.cfg.hazards, .int .i64 s.cfg.retire, .int .i64 s.cfg.cache, .int .i64 s.cfg.slots, .int .i64 s.cfg.buckets, .int .i64 s.rt, .int .i64 s.rc, .int .i64 s.dt, .int .i64 s.dr, .int .i64 s.lt, .int .i64 s.lk, .int .i64 s.st, .int .i64 s.sv, .slice A1 n k1] 76))) := HW1.out.alloc HW1.out.size _
  have HS2 : Hid (Sl (w1.alloc (.cells #[.int .i64 s.kind, .int .i64 s.cfg.threads, .int .i64 s.cfg.records, .int .i64 s.cfg.hazards, .int .i64 s.cfg.retire, .int .i64 s.cfg.cache, .int .i64 s.cfg.slots, .int .i64 s.cfg.buckets, .int .i64 s.rt, .int .i64 s.rc, .int .i64 s.dt, .int .i64 s.dr, .int .i64 s.lt, .int .i64 s.lk, .int .i64 s.st, .int .i64 s.sv, .slice A1 n k1] 76)) w1.heap.size 4 A1 (n + 9) (mvVals (ms ++ marks 9))) := HS1.out.below ((Below.refl _ _).alloc (Nat.le_refl _) _)
  have hz12 : w1.heap.size < (w1.alloc (.cells #[.int .i64 s.kind, .int .i64 s.cfg.threads, .int .i64 s.cfg.records, .int .i64 s.cfg.hazards, .int .i64 s.cfg.retire, .int .i64 s.cfg.cache, .int .i64 s.cfg.slots, .int .i64 s.cfg.buckets, .int .i64 s.rt, .int .i64 s.rc, .int .i64 s.dt, .int .i64 s.dr, .int .i64 s.lt, .int .i64 s.lk, .int .i64 s.st, .int .i64 s.sv, .slice A1 n k1] 76)).heap.size := by simp
  generalize w1.alloc (.cells #[.int .i64 s.kind, .int .i64 s.cfg.threads, .int .i64 s.cfg.records, .int .i64 s.cfg.hazards, .int .i64 s.cfg.retire, .int .i64 s.cfg.cache, .int .i64 s.cfg.slots, .int .i64 s.cfg.buckets, .int .i64 s.rt, .int .i64 s.rc, .int .i64 s.dt, .int .i64 s.dr, .int .i64 s.lt, .int .i64 s.lk, .int .i64 s.st, .int .i64 s.sv, .slice A1 n k1] 76) = w2 at HB2 HC2 HW2 HS2 hz12 ⊢
  have HM2 : Hid (∀ W, Below w2.heap.size w2 W → MvsAt W W.heap.size A1 n k1 ms) := fun W hB => by
    have h9 := (HS2.out.below (hB.mono (by omega))).up (B' := W.heap.size) (by have := hB.size; omega)
    rw [mvVals_app] at h9
    exact ⟨h9.pre (by rw [mvVals_len, HLen.out]) (by omega), by omega, HKm.out⟩
  refine wp_region_lit ?_
  refine wpList_load_row rfl _ _ rfl w1.heap.size rfl 76 _ (0, 0) _ HC2.out Try.underlying76 rfl size_ses ?_
  go_wp2_with fail
  refine (psave_any s A1 n k1 ms _ (HM2.out _ (Below.refl _ _)) HOk.out).mono ?_
  rintro e w3 ⟨hb3, hh⟩
  have hz3 := hb3.size
  have HB3 := Lib.hid (HB2.out.below hb3 HB2.out.lt)
  have HC3 := Lib.hid (HC2.out.below hb3 HC2.out.lt)
  have HW3 := Lib.hid (HW2.out.trans (hb3.mono HW2.out.size))
  have HD3 := Lib.hid hb3
  have hwz : w.heap.size < w3.heap.size := by have := HB3.out.lt; omega
  obtain ⟨E, hE0⟩ : ∃ E, E = sesErr s n := ⟨_, rfl⟩
  have HEE := Lib.hid hE0
  clear hb3
  have HWh : Hid (∀ W, Below w3.heap.size w3 W → Calls Try.prog 33 #[.slice A n k, .slice A1 (n + 9) k1] W (BoolR true W)) := fun W hB =>
    whole_any A A1 n k k1 ms W ((HM.out.keep (HW3.out.trans (hB.mono (by omega)))).up (by have := hB.size; omega)) ((HS2.out.below ((HD3.out.mono (by omega)).trans (hB.mono (by omega)))).up (by have := hB.size; omega)) HNn.out ⟨hk1, HKm.out⟩
  obtain ⟨C, hC⟩ : ∃ C, C = crcS l := ⟨_, rfl⟩
  have HPs : Hid (∀ W, Below w3.heap.size w3 W → Calls Try.prog 34 #[.slice A0 n0 k0] W (fun e w' => e = .returned (.int .u32 C) ∧ w' = W)) := fun W hB => by
    rw [hC]
    exact psum_any A0 n0 k0 l W w.heap.size (HRaw.out.below (HW3.out.trans (hB.mono (by omega)))) HN0.out HLb.out
  have HRs : Hid (∀ W, Below w3.heap.size w3 W → Calls Try.prog 35 #[.slice A0 n0 k0] W (fun e w' => e = .returned (.int .u32 C) ∧ w' = W)) := fun W hB => by
    rw [hC]
    exact rsum_any A0 n0 k0 l W w.heap.size (HRaw.out.below (HW3.out.trans (hB.mono (by omega)))) HN0.out HLb.out
  have b1 : ((C : Int) != (C : Int)) = false := by simp
  clear hC
  rcases hh with ⟨h0, Ab, kb, rfl, hBb⟩ | ⟨hne, rfl⟩
  case inr =>
    rw [← hE0] at hne ⊢
    have b2 : (E != 0) = true := by simp [hne]
    have b3 : (E == E) = true := by simp
    have HNe := Lib.hid hne
    clear hne hE0
    go_wp2_with fail
    refine (awake28_any _).mono ?_
    rintro e w4 ⟨rfl, hb4⟩
    have HB4 := Lib.hid (HB3.out.below hb4 HB3.out.lt)
    have c16 : w4.cell? ⟨w.heap.size, 16, none⟩ = some (.slice A n k) := HB4.out.cell rfl
    go_wp2_with fail
    refine (HWh.out _ hb4).mono ?_
    rintro e w5 ⟨rfl, hb5⟩
    have hb35 := hb4.trans (hb5.mono hb4.size)
    have HB5 := Lib.hid (HB3.out.below hb35 HB3.out.lt)
    clear c16
    go_wp2_with fail
    refine (HPs.out _ hb35).mono ?_
    rintro e wq ⟨rfl, hwq⟩
    replace hwq := hwq.symm
    subst hwq
    go_wp2_with fail
    refine (HRs.out _ hb35).mono ?_
    rintro e wq ⟨rfl, hwq⟩
    replace hwq := hwq.symm
    subst hwq
    go_upto_region 5 with fail
    refine wp_region_lit ?_
    refine wpList_load_row rfl _ _ rfl w.heap.size rfl 76 _ (0, 0) _ HB5.out Try.underlying76 rfl size_ses ?_
    go_wp2_with fail
    refine (rscheck_any s A n k _).mono ?_
    rintro e w6 ⟨he, hb6⟩
    rw [← HEE.out] at he
    subst he
    go_wp2_with fail
    go_ret
    exact ⟨rfl, HW3.out.trans ((hb35.trans (hb6.mono hb35.size)).mono (by omega))⟩
  have h0' : sesErr s n = 0 := h0
  obtain ⟨I, hI⟩ : ∃ I, I = imgB s ms := ⟨_, rfl⟩
  have HI := Lib.hid hI
  obtain ⟨N, hN⟩ : ∃ N, N = I.length := ⟨_, rfl⟩
  have hBb' : w3.ownsRow w2.heap.size 5 1 (.slice Ab N kb) N (u8s I) := by rw [hN, hI]; exact hBb
  have HNl := Lib.hid hN
  have hNb : 9 ≤ N ∧ N ≤ 4000000 := by
    obtain ⟨hc, hn6⟩ := sesErr_ok h0'
    rw [hN, hI]
    unfold imgB bodyB
    have f1 := flat_len Int.toNat (numsL s)
    have f2 := cnt_len ms.length
    have f3 := flat_len sgn (mvsI ms)
    have f4 := (cfg_nums hc).1
    rw [mvsI_len, HLen.out] at f3
    rw [List.length_append, List.length_append, List.length_append, List.length_append, hdr_len]
    have f5 : (leB (crcS (hdrB s ++ flat Int.toNat (numsL s) ++ cnt ms.length ++ flat sgn (mvsI ms))) 4).length = 4 := by simp [leB]
    omega
  rw [← hI, ← hN]
  have hB0 : E = 0 := by rw [hE0]; exact h0
  obtain ⟨gb, csb, rfl, hgb, hBk, hcl, hNk, hkm, htk⟩ := Bts.blk hBb' (by omega)
  have HBk := Lib.hid hBk
  have HCl := Lib.hid hcl
  have HTk := Lib.hid htk
  have HH0 := Lib.hid h0'
  have b2 : (E != 0) = false := by simp [hB0]
  have b4 : E = 0 := hB0
  clear hBb hBb' hBk hcl htk h0 h0' hI hN hB0 hE0
  subst b4
  go_wp2_with fail
  refine (awake28_any _).mono ?_
  rintro e w4 ⟨rfl, hb4⟩
  have HB4 := Lib.hid (HB3.out.below hb4 HB3.out.lt)
  have c16 : w4.cell? ⟨w.heap.size, 16, none⟩ = some (.slice A n k) := HB4.out.cell rfl
  go_wp2_with fail
  refine (HWh.out _ hb4).mono ?_
  rintro e w5 ⟨rfl, hb5⟩
  have HD5 := Lib.hid (hb4.trans (hb5.mono hb4.size))
  have HB5 := Lib.hid (HB3.out.below HD5.out HB3.out.lt)
  clear c16 hb5
  go_wp2_with fail
  refine (HPs.out _ HD5.out).mono ?_
  rintro e wq ⟨rfl, hwq⟩
  replace hwq := hwq.symm
  subst hwq
  go_wp2_with fail
  refine (HRs.out _ HD5.out).mono ?_
  rintro e wq ⟨rfl, hwq⟩
  replace hwq := hwq.symm
  subst hwq
  go_upto_region 5 with fail
  refine wp_region_lit ?_
  refine wpList_load_row rfl _ _ rfl w.heap.size rfl 76 _ (0, 0) _ HB5.out Try.underlying76 rfl size_ses ?_
  go_wp2_with fail
  refine (rscheck_any s A n k _).mono ?_
  rintro e w6 ⟨he, hb6⟩
  rw [HH0.out] at he
  subst he
  have HD6 := Lib.hid (HD5.out.trans (hb6.mono HD5.out.size))
  have HB6 := Lib.hid (HB3.out.below HD6.out HB3.out.lt)
  clear hb6 hb4
  have hz6 := HD6.out.size
  go_upto_region 8 with fail
  refine wp_region_lit ?_
  refine wpList_load_row rfl _ _ rfl w.heap.size rfl 76 _ (0, 0) _ HB6.out Try.underlying76 rfl size_ses ?_
  go_wp2_with fail
  have HM6 : Hid (MvsAt w6 w6.heap.size A n k ms) := (HM.out.keep (HW3.out.trans (HD6.out.mono (by omega)))).up (by omega)
  refine (rsave_any s A n k ms _ HM6.out HOk.out HH0.out).mono ?_
  rintro e w7 ⟨Aw, kw, rfl, hBw, hb7⟩
  have hBw' : w7.ownsRow w6.heap.size 5 1 (.slice Aw N kw) N (u8s I) := by rw [HNl.out, HI.out]; exact hBw
  rw [← HI.out, ← HNl.out]
  have hz7 := hb7.size
  obtain ⟨gw, csw, rfl, hgw, hWk, hwcl, hwN, hwm, hwt⟩ := Bts.blk hBw' (by omega)
  have HD7 := Lib.hid (HD6.out.trans (hb7.mono HD6.out.size))
  have HWs7 := Lib.hid (hWk.slb hwcl hwN hwt)
  have HBk7 := Lib.hid (HBk.out.below HD7.out HBk.out.lt)
  have HBs7 := Lib.hid (HBk7.out.slb HCl.out hNk HTk.out)
  have HC7 := Lib.hid (HC3.out.below HD7.out HC3.out.lt)
  have HWk := Lib.hid hWk
  have hgb3 := HBk.out.lt
  clear hBw hBw' hb7 hWk
  go_upto_region 9 with fail
  go_wp2_with fail
  refine (bytes_same (some ⟨gb, 0, none⟩) (some ⟨gw, 0, none⟩) N kb kw I _ HNl.out.symm HBs7.out HWs7.out (by omega)).mono ?_
  rintro e w8 ⟨rfl, hb8⟩
  have hz8 := hb8.size
  have HD8 := Lib.hid (HD7.out.trans (hb8.mono HD7.out.size))
  have HBk8 := Lib.hid (HBk.out.below HD8.out HBk.out.lt)
  have HWk8 := Lib.hid (HWk.out.below hb8 HWk.out.lt)
  have HC8 := Lib.hid (HC3.out.below HD8.out HC3.out.lt)
  clear hb8
  go_upto_region 11 with fail
  refine wp_region_lit ?_
  refine wpList_load_row rfl _ _ rfl w1.heap.size rfl 76 _ (0, 0) _ HC8.out Try.underlying76 rfl size_ses ?_
  go_wp2_with fail
  refine (psave_any s A1 n k1 ms _ (HM2.out _ (HD3.out.trans (HD8.out.mono hz3))) HOk.out).mono ?_
  rintro e w9 ⟨hb9, hh⟩
  have hz9 := hb9.size
  rcases hh with ⟨_, Ao, ko, rfl, hBo⟩ | ⟨hne, _⟩
  case inr => exact absurd HH0.out hne
  have hBo' : w9.ownsRow w8.heap.size 5 1 (.slice Ao N ko) N (u8s I) := by rw [HNl.out, HI.out]; exact hBo
  rw [← HI.out, ← HNl.out]
  obtain ⟨go, cso, rfl, hgo, hOk, hocl, hoN, hom, hot⟩ := Bts.blk hBo' (by omega)
  have HD9 := Lib.hid (HD8.out.trans (hb9.mono HD8.out.size))
  have HBk9 := Lib.hid (HBk.out.below HD9.out HBk.out.lt)
  have HWk9 := Lib.hid (HWk8.out.below hb9 HWk8.out.lt)
  have HOk9 := Lib.hid hOk
  have HOt := Lib.hid (⟨hocl, hot⟩ : cso.length = ko ∧ cso.take N = u8s I)
  have HWt := Lib.hid (⟨hwcl, hwt⟩ : csw.length = kw ∧ csw.take N = u8s I)
  have hne1 : gw ≠ gb := by omega
  have hne2 : go ≠ gb := by omega
  have HF9 := Lib.hid (HW3.out.trans (HD9.out.mono (by omega)))
  clear hBo hBo' hb9 hOk hocl hot hwcl hwt
  go_wp2_with fail
  go_loopg [12] N (fun gk i wr => ∃ (j : Nat) (cs : List Value), j + gk = N ∧ i = .int .i64 j ∧ Hid (Blk wr gb 5 cs) ∧ cs.length = kb ∧ w9.grownBy wr (some gb))
  case atStart => exact ⟨0, csb, by omega, rfl, HBk9.out, HCl.out, World.grownBy.refl _ _⟩
  case round =>
    obtain ⟨j, cs, hj, rfl, HBc, hcs, hgr⟩ := hrel
    by_cases hlt : j < N
    · obtain ⟨u, hu⟩ := at_lt (show j < cs.length by omega)
      have c0 : wr.cell? ⟨gb, j, none⟩ = some u := HBc.out.cell hu
      have f0 := HBc.out.frozen j
      have e1 : (j : Int) < N := by omega
      have e0 : (0 : Int) ≤ j := by omega
      clear hu
      go_wp2_with fail
      go_roundg (gk - 1)
      case measure => omega
      case rel =>
        refine ⟨j + 1, cs.set j (.int .u8 77), by omega, by go_num, HBc.out.set_ j _, by rw [List.length_set]; exact hcs, ?_⟩
        exact ⟨hgr.os, hgr.tape, hgr.output, by have := hgr.size; simpa [World.setCell] using this, fun i hi hne => (Below.heap_setCell wr ⟨gb, j, none⟩ _ i (fun he => hne (by rw [he]))).trans (hgr.block i hi hne)⟩
    · obtain rfl : j = N := by omega
      obtain ⟨wl, rfl⟩ : ∃ wl : World, wl = wr := ⟨_, rfl⟩
      obtain ⟨gj, rfl⟩ : ∃ gj : Nat, gj = gk := ⟨_, rfl⟩
      obtain ⟨vb, hvb⟩ : ∃ vb, vb = Value.slice (some ⟨gb, 0, none⟩) j kb := ⟨_, rfl⟩
      have HOb := Lib.hid (HBc.out.bts hcs hNk hkm (Nat.le_refl gb))
      have hzl := hgr.size
      have hgl := HBc.out.lt
      have HVb := Lib.hid (show vb.ownBlock = some gb by rw [hvb]; rfl)
      have HGr := Lib.hid hgr
      have HV := Lib.hid hvb
      have HOl := Lib.hid (HOk9.out.kept (hgr.block go HOk9.out.lt (by intro he; injection he with he; omega)))
      have HWl := Lib.hid (HWk9.out.kept (hgr.block gw HWk9.out.lt (by intro he; injection he with he; omega)))
      have HFl := Lib.hid (HF9.out.grown hgr (by have := HF9.out.size; omega) (fun q hq => by have := HW2.out.size; injection hq with hq; omega))
      clear hgr hcs
      clear hvb
      go_wp2_with (at_builtin; go_must (refine wpList_app _ rfl _ _ 77 rfl gb 5 i1 (.int .u8 0) 1 1 Try.underlying77 hi1 hi1z hi1s hi1b rfl (by decide) (.slice (some ⟨gb, 0, none⟩) j kb) j _ rfl (HOb.out.alloc _) (wl.heap.size + 1) (some ⟨wl.heap.size, 0, none⟩) 1 1 [.int .u8 78] rfl (((Blk.new wl 5 _).sl rfl).up (by simp)) u8_one (j + 1) rfl _ rfl _ rfl (by simp only [maxLen]; omega) (by omega) (by rw [World.size_alloc]; omega) ?_; intro A7 k7 w10 hown7 hg7 hat7 hk7 hk8))
      have HO10 := Lib.hid hown7
      have HG10 : Hid (Grew wl w10 vb (.slice A7 (j + 1) k7)) := by rw [HV.out]; exact Grew.app hg7 hat7
      clear hown7 hg7 hat7
      go_loopg [13, 14] 70 (fun gk v0 i wr => ∃ (q : Nat) (v : Value) (L : List Value), q + gk = 70 ∧ i = .int .i64 q ∧ v = v0 ∧ Hid (wr.ownsRow gb 5 1 v (j + 1 + q) L) ∧ Hid (Grew wl wr vb v))
      case atStart => exact ⟨0, _, _, by omega, rfl, rfl, HO10.out, HG10.out⟩
      case round =>
        obtain ⟨q, v, L, hq, rfl, rfl, HO, HG⟩ := hrel
        have hzr := HG.out.gb.size
        by_cases hlt2 : q < 70
        · have e1 : (q : Int) < 70 := by omega
          have e0 : (0 : Int) ≤ q := by omega
          go_wp2_with (at_builtin; go_must (refine wpList_app _ rfl _ _ 77 rfl gb 5 i1 (.int .u8 0) 1 1 Try.underlying77 hi1 hi1z hi1s hi1b rfl (by decide) v (j + 1 + q) _ rfl (HO.out.alloc _) (wr.heap.size + 1) (some ⟨wr.heap.size, 0, none⟩) 1 1 [.int .u8 79] rfl (((Blk.new wr 5 _).sl rfl).up (by simp)) u8_one ((j + 1 + q) + 1) rfl _ rfl _ rfl (by simp only [maxLen]; omega) (by omega) (by rw [World.size_alloc]; omega) ?_; intro A8 k8 w11 hown8 hg8 hat8 hk9 hk10))
          go_roundg (gk - 1)
          case measure => omega
          case rel => exact ⟨q + 1, _, _, by omega, by go_num, rfl, hown8, HG.out.trans (Grew.app hg8 hat8)⟩
        · obtain rfl : q = 70 := by omega
          obtain ⟨w12, rfl⟩ : ∃ w12 : World, w12 = wr := ⟨_, rfl⟩
          have HOf := Lib.hid (HG.out.blk HOl.out (by rw [HVb.out]; intro he; injection he with he; omega))
          have HWf := Lib.hid (HG.out.blk HWl.out (by rw [HVb.out]; intro he; injection he with he; omega))
          have HFf := Lib.hid (HFl.out.grown HG.out.gb HFl.out.size (fun g hg => by have := HW2.out.size; rw [HVb.out] at hg; injection hg with hg; omega))
          go_wp2_with fail
          refine (bytes_same (some ⟨go, 0, none⟩) (some ⟨gw, 0, none⟩) j ko kw I _ HNl.out.symm (HOf.out.slb HOt.out.1 hoN HOt.out.2) (HWf.out.slb HWt.out.1 hwN HWt.out.2) (by omega)).mono ?_
          rintro e w13 ⟨rfl, hb13⟩
          go_wp2_with fail
          go_ret
          exact ⟨rfl, HFf.out.trans (hb13.mono HFf.out.size)⟩
end Go.Proofs.Ytgbopmgeicokoaa
