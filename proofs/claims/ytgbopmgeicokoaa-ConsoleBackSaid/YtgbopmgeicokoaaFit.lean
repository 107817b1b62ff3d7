/-
  ConsoleBack: fit, a session that may be.
-/
import Derived.Test.YtgbopmgeicokoaaMade
import Derived.Test.YtgbopmgeicokoaaRnd
import Derived.Deep.RegionHeld3
namespace Go.Proofs.Ytgbopmgeicokoaa
open Go.RowKit

def FitR (B : Nat) (w : World) (e : Ending) (w' : World) : Prop :=
  ∃ (s : Ses) (A : Option Addr) (n k : Nat) (ms : List Mv), e = .returned (sesV s (.slice A n k)) ∧ MvsAt w' w'.heap.size A n k ms ∧ (0 < n → ∀ a, A = some a → a.block < B ∨ w.heap.size ≤ a.block) ∧ (∀ x ∈ ms, MvOk x) ∧ sesErr s n = 0 ∧ fitS s = s ∧ Below w.heap.size w w'
theorem MvsAt.other {w w' : World} {B n k : Nat} {A : Option Addr} {ms : List Mv} (h : MvsAt w B A n k ms) (hb : 0 < n → ∀ a, A = some a → w'.heap[a.block]? = w.heap[a.block]?) : MvsAt w' B A n k ms := by
  by_cases hn : 0 < n
  · exact ⟨h.sl.other (hb hn), h.nk⟩
  · exact ⟨⟨h.sl.1, fun h0 => absurd h0 hn⟩, h.nk⟩
def SamR2 (w : World) (e : Ending) (w' : World) : Prop := ∃ g, e = .returned (sesV ses9 (.slice (some ⟨g, 0, none⟩) 2 2)) ∧ w.heap.size ≤ g ∧ MvsAt w' w'.heap.size (some ⟨g, 0, none⟩) 2 2 mvs9 ∧ Below w.heap.size w w'
set_option maxRecDepth 100000 in
set_option maxHeartbeats 4000000 in
theorem samp_any (w : World) : Calls Try.prog 74 #[] w (SamR2 w) := by
  go_enter Try.func74, Try.ntmps74
  go_upto_region 1 with fail
  have HZ0 : Hid (Blk (w.alloc (.cells #[.int .i64 0, .int .i64 0, .int .i64 0, .int .i64 0, .int .i64 0, .int .i64 0, .int .i64 0, .int .i64 0, .int .i64 0, .int .i64 0, .int .i64 0, .int .i64 0, .int .i64 0, .int .i64 0, .int .i64 0, .int .i64 0, .slice none 0 0] 76)) w.heap.size 76 [.int .i64 0, .int .i64 0, .int .i64 0, .int .i64 0, .int .i64 0, .int .i64 0, .int .i64 0, .int .i64 0, .int .i64 0, .int .i64 0, .int .i64 0, .int .i64 0, .int .i64 0, .int .i64 0, .int .i64 0, .int .i64 0, .slice none 0 0]) := Blk.new _ _ _
  clear HZ0
  go_wp2_with fail
  have HR : Blk ((w.alloc (.cells #[.int .i64 3, .int .i64 0, .int .i64 0, .int .i64 0, .int .i64 0, .int .i64 0, .int .i64 0, .int .i64 0, .int .i64 2, .int .i64 3, .int .i64 0, .int .i64 0, .int .i64 0, .int .i64 0, .int .i64 0, .int .i64 0, .slice (some ⟨w.heap.size + 1, 0, none⟩) 2 2] 76)).alloc (.cells #[.int .i64 0, .int .i64 100, .int .i64 (-1), .int .i64 0, .int .i64 1, .int .i64 0, .int .i64 0, .int .i64 0] 95)) w.heap.size 76 [.int .i64 3, .int .i64 0, .int .i64 0, .int .i64 0, .int .i64 0, .int .i64 0, .int .i64 0, .int .i64 0, .int .i64 2, .int .i64 3, .int .i64 0, .int .i64 0, .int .i64 0, .int .i64 0, .int .i64 0, .int .i64 0, .slice (some ⟨w.heap.size + 1, 0, none⟩) 2 2] := (Blk.new w 76 [.int .i64 3, .int .i64 0, .int .i64 0, .int .i64 0, .int .i64 0, .int .i64 0, .int .i64 0, .int .i64 0, .int .i64 2, .int .i64 3, .int .i64 0, .int .i64 0, .int .i64 0, .int .i64 0, .int .i64 0, .int .i64 0, .slice (some ⟨w.heap.size + 1, 0, none⟩) 2 2]).alloc _
  have HM := Blk.new (w.alloc (.cells #[.int .i64 3, .int .i64 0, .int .i64 0, .int .i64 0, .int .i64 0, .int .i64 0, .int .i64 0, .int .i64 0, .int .i64 2, .int .i64 3, .int .i64 0, .int .i64 0, .int .i64 0, .int .i64 0, .int .i64 0, .int .i64 0, .slice (some ⟨w.heap.size + 1, 0, none⟩) 2 2] 76)) 95 [.int .i64 0, .int .i64 100, .int .i64 (-1), .int .i64 0, .int .i64 1, .int .i64 0, .int .i64 0, .int .i64 0]
  rw [World.size_alloc] at HM
  refine bodyPost_ret_by (results_cell_row rfl _ _ w.heap.size 76 _ (0, 0) _ rfl HR Try.underlying76 rfl size_ses) rfl ?_
  exact ⟨w.heap.size + 1, rfl, by omega, ⟨(HM.sl (n := 2) (sz := 4) rfl).up (by simp), Nat.le_refl _, by simp [maxLen]⟩, ((Below.refl _ _).alloc (Nat.le_refl _) _).alloc (by simp) _⟩
theorem mvs9_ok : ∀ x ∈ mvs9, MvOk x := by
  intro x hx z hz
  simp [mvs9] at hx
  rcases hx with rfl | rfl <;> simp [mvI] at hz <;> omega
theorem ses9_fit : fitS ses9 = ses9 := rfl
theorem ses9_err : sesErr ses9 2 = 0 := by decide
theorem ints_nats {l : List Int} (h : ∀ x ∈ l, 0 ≤ x ∧ x ≤ 1024) : natsV (l.map Int.toNat) = l.map fun x : Int => Value.int .i64 x := by
  unfold natsV
  rw [List.map_map]
  refine List.map_congr_left fun x hx => ?_
  show Value.int .i64 ((x.toNat : Nat) : Int) = _
  rw [natI (h x hx).1]

theorem lt_new (w : World) (o : Obj) : w.heap.size < (w.alloc o).heap.size := by simp
theorem Below.step {B : Nat} {a b c : World} (h : Below B a b) (h2 : Below b.heap.size b c) (hB : B ≤ a.heap.size) : Below B a c := h.trans (h2.mono (Nat.le_trans hB h.size))
theorem Below.size' {a b : World} (h : Below a.heap.size a b) : a.heap.size ≤ b.heap.size := h.size
theorem zero_cells {W : World} {g : Nat} (h : Blk W g 76 [.int .i64 0, .int .i64 0, .int .i64 0, .int .i64 0, .int .i64 0, .int .i64 0, .int .i64 0, .int .i64 0, .int .i64 0, .int .i64 0, .int .i64 0, .int .i64 0, .int .i64 0, .int .i64 0, .int .i64 0, .int .i64 0, .slice none 0 0]) : W.cell? ⟨g, 0, none⟩ = some (.int .i64 0) ∧ W.cell? ⟨g, 1, none⟩ = some (.int .i64 0) ∧ W.cell? ⟨g, 2, none⟩ = some (.int .i64 0) ∧ W.cell? ⟨g, 3, none⟩ = some (.int .i64 0) ∧ W.cell? ⟨g, 4, none⟩ = some (.int .i64 0) ∧ W.cell? ⟨g, 5, none⟩ = some (.int .i64 0) ∧ W.cell? ⟨g, 6, none⟩ = some (.int .i64 0) ∧ W.cell? ⟨g, 7, none⟩ = some (.int .i64 0) ∧ W.cell? ⟨g, 8, none⟩ = some (.int .i64 0) ∧ W.cell? ⟨g, 9, none⟩ = some (.int .i64 0) ∧ W.cell? ⟨g, 10, none⟩ = some (.int .i64 0) ∧ W.cell? ⟨g, 11, none⟩ = some (.int .i64 0) ∧ W.cell? ⟨g, 12, none⟩ = some (.int .i64 0) ∧ W.cell? ⟨g, 13, none⟩ = some (.int .i64 0) ∧ W.cell? ⟨g, 14, none⟩ = some (.int .i64 0) ∧ W.cell? ⟨g, 15, none⟩ = some (.int .i64 0) ∧ W.cell? ⟨g, 16, none⟩ = some (.slice none 0 0) ∧ W.frozen? ⟨g, 0, none⟩ = false ∧ W.frozen? ⟨g, 1, none⟩ = false ∧ W.frozen? ⟨g, 2, none⟩ = false ∧ W.frozen? ⟨g, 3, none⟩ = false ∧ W.frozen? ⟨g, 4, none⟩ = false ∧ W.frozen? ⟨g, 5, none⟩ = false ∧ W.frozen? ⟨g, 6, none⟩ = false ∧ W.frozen? ⟨g, 7, none⟩ = false ∧ W.frozen? ⟨g, 8, none⟩ = false ∧ W.frozen? ⟨g, 9, none⟩ = false ∧ W.frozen? ⟨g, 10, none⟩ = false ∧ W.frozen? ⟨g, 11, none⟩ = false ∧ W.frozen? ⟨g, 12, none⟩ = false ∧ W.frozen? ⟨g, 13, none⟩ = false ∧ W.frozen? ⟨g, 14, none⟩ = false ∧ W.frozen? ⟨g, 15, none⟩ = false ∧ W.frozen? ⟨g, 16, none⟩ = false ∧ g < W.heap.size := by
  refine ⟨h.cell rfl, h.cell rfl, h.cell rfl, h.cell rfl, h.cell rfl, h.cell rfl, h.cell rfl, h.cell rfl, h.cell rfl, h.cell rfl, h.cell rfl, h.cell rfl, h.cell rfl, h.cell rfl, h.cell rfl, h.cell rfl, h.cell rfl, h.frozen 0, h.frozen 1, h.frozen 2, h.frozen 3, h.frozen 4, h.frozen 5, h.frozen 6, h.frozen 7, h.frozen 8, h.frozen 9, h.frozen 10, h.frozen 11, h.frozen 12, h.frozen 13, h.frozen 14, h.frozen 15, h.frozen 16, h.lt⟩
theorem fit_end {s T : Ses} {A : Option Addr} {n k B : Nat} {ms : List Mv} {w W : World} (hT : T = fitS s) (hE : sesErr s n = 0) (hM : MvsAt w B A n k ms) (hB : B ≤ w.heap.size) (hok : ∀ x ∈ ms, MvOk x) (hW : Below w.heap.size w W) :
    FitR B w (.returned (sesV T (.slice A n k))) W := by
  refine ⟨T, A, n, k, ms, rfl, (hM.keep (hW.mono hB)).up (Nat.le_trans hB hW.size), fun hn a ha => Or.inl ?_, hok, by rw [hT]; exact fit_err hE, by rw [hT]; exact fit_fit (sesErr_ok hE).1, hW⟩
  obtain ⟨b, o, e, hb, _⟩ := hM.sl.2 hn
  rw [e] at ha
  injection ha with ha
  subst ha
  exact hb
set_option maxRecDepth 100000 in
set_option maxHeartbeats 8000000 in
theorem fit_any (s : Ses) (A : Option Addr) (n k : Nat) (ms : List Mv) (w : World) (B : Nat) (h : MvsAt w B A n k ms) (hB : B ≤ w.heap.size) (hok : ∀ x ∈ ms, MvOk x) :
    Calls Try.prog 42 #[sesV s (.slice A n k)] w (FitR B w) := by
  obtain ⟨w0, hw0⟩ : ∃ w0 : World, w0 = (w.alloc (.cells #[.int .i64 s.kind, .int .i64 s.cfg.threads, .int .i64 s.cfg.records, .int .i64 s.cfg.hazards, .int .i64 s.cfg.retire, .int .i64 s.cfg.cache, .int .i64 s.cfg.slots, .int .i64 s.cfg.buckets, .int .i64 s.rt, .int .i64 s.rc, .int .i64 s.dt, .int .i64 s.dr, .int .i64 s.lt, .int .i64 s.lk, .int .i64 s.st, .int .i64 s.sv, .slice A n k] 76)).alloc (.cells #[.int .i64 0, .int .i64 0, .int .i64 0, .int .i64 0, .int .i64 0, .int .i64 0, .int .i64 0, .int .i64 0, .int .i64 0, .int .i64 0, .int .i64 0, .int .i64 0, .int .i64 0, .int .i64 0, .int .i64 0, .int .i64 0, .slice none 0 0] 76) := ⟨_, rfl⟩
  have HB0 : Hid (Blk w0 w.heap.size 76 (sesL s (.slice A n k))) := by rw [hw0]; exact (Blk.new w 76 (sesL s (.slice A n k))).alloc _
  have HZ0 : Hid (Blk w0 (w.heap.size + 1) 76 [.int .i64 0, .int .i64 0, .int .i64 0, .int .i64 0, .int .i64 0, .int .i64 0, .int .i64 0, .int .i64 0, .int .i64 0, .int .i64 0, .int .i64 0, .int .i64 0, .int .i64 0, .int .i64 0, .int .i64 0, .int .i64 0, .slice none 0 0]) := by
    rw [hw0]
    have h9 := Blk.new (w.alloc (.cells #[.int .i64 s.kind, .int .i64 s.cfg.threads, .int .i64 s.cfg.records, .int .i64 s.cfg.hazards, .int .i64 s.cfg.retire, .int .i64 s.cfg.cache, .int .i64 s.cfg.slots, .int .i64 s.cfg.buckets, .int .i64 s.rt, .int .i64 s.rc, .int .i64 s.dt, .int .i64 s.dr, .int .i64 s.lt, .int .i64 s.lk, .int .i64 s.st, .int .i64 s.sv, .slice A n k] 76)) 76 [.int .i64 0, .int .i64 0, .int .i64 0, .int .i64 0, .int .i64 0, .int .i64 0, .int .i64 0, .int .i64 0, .int .i64 0, .int .i64 0, .int .i64 0, .int .i64 0, .int .i64 0, .int .i64 0, .int .i64 0, .int .i64 0, .slice none 0 0]
    rw [World.size_alloc] at h9
    exact h9
  have HW0 : Hid (Below w.heap.size w w0) := by rw [hw0]; exact ((Below.refl _ _).alloc (Nat.le_refl _) _).alloc (by simp) _
  have HM := Lib.hid h
  have HOk := Lib.hid hok
  have HWe := Lib.hid hw0
  have HBs := Lib.hid hB
  clear h hw0 hok
  go_enter Try.func42, Try.ntmps42
  go_upto_region 1 with fail
  rw [← HWe.out]
  clear HWe
  refine wp_region_lit ?_
  refine wpList_load_row rfl _ _ rfl w.heap.size rfl 76 _ (0, 0) _ HB0.out Try.underlying76 rfl size_ses ?_
  go_wp2_with fail
  refine (rscheck_any s A n k w0).mono ?_
  rintro e w1 ⟨rfl, hb1⟩
  have HB1 := Lib.hid (HB0.out.below hb1 HB0.out.lt)
  have HZ1 := Lib.hid (HZ0.out.below hb1 HZ0.out.lt)
  have HW1 := Lib.hid (HW0.out.trans (hb1.mono HW0.out.size))
  have hz0 : w.heap.size + 1 < w0.heap.size := HZ0.out.lt
  have hz1 := hb1.size
  clear hb1 HB0 HZ0 HW0
  by_cases h0 : sesErr s n = 0
  case neg =>
    have b1 : (sesErr s n != 0) = true := by simp [h0]
    clear h0
    go_wp2_with fail
    refine (samp_any _).mono ?_
    rintro e w2 ⟨g2, rfl, hg2, hm2, hb2⟩
    have HZ2 := Lib.hid (HZ1.out.below hb2 HZ1.out.lt)
    have HW2 := Lib.hid (HW1.out.trans (hb2.mono HW1.out.size))
    have HM2 := Lib.hid hm2
    clear hm2 hb2
    rename_i hk
    refine hk _ _ ?_
    refine wpList_store_row rfl _ _ _ rfl (w.heap.size + 1) _ rfl rfl _ _ HZ2.out size_ses rfl (ses_one ses9 (some ⟨g2, 0, none⟩) 2 2) ?_
    have HR := Lib.hid (setRow_heap w2 (w.heap.size + 1) _ (sesL ses9 (.slice (some ⟨g2, 0, none⟩) 2 2)).toArray _ _ HZ2.out)
    go_wp2_with fail
    refine bodyPost_ret_by (results_cell_row rfl _ _ (w.heap.size + 1) 76 _ (0, 0) _ rfl HR.out Try.underlying76 rfl size_ses) rfl ?_
    refine ⟨ses9, some ⟨g2, 0, none⟩, 2, 2, mvs9, rfl, ?_, fun _ a ha => Or.inr ?_, mvs9_ok, ses9_err, ses9_fit, below_row HW2.out (by omega)⟩
    · exact (HM2.out.other (fun _ a ha => setRow_other w2 (w.heap.size + 1) a.block _ (by injection ha with ha; subst ha; dsimp only; omega))).up (by simp [World.setRow])
    · injection ha with ha
      subst ha
      dsimp only
      omega
  obtain ⟨hc, hn6⟩ := sesErr_ok h0
  have hk := cfg_kind hc
  obtain ⟨K, hK⟩ : ∃ K : Nat, s.kind = K := ⟨s.kind.toNat, by omega⟩
  have b1 : (sesErr s n != 0) = false := by simp [h0]
  have HKs := Lib.hid hK
  have HNum : Hid (∀ W, Below w1.heap.size w1 W → Calls Try.prog 79 #[.agg #[.int .i64 K, .int .i64 s.cfg.threads, .int .i64 s.cfg.records, .int .i64 s.cfg.hazards, .int .i64 s.cfg.retire, .int .i64 s.cfg.cache, .int .i64 s.cfg.slots, .int .i64 s.cfg.buckets, .int .i64 s.rt, .int .i64 s.rc, .int .i64 s.dt, .int .i64 s.dr, .int .i64 s.lt, .int .i64 s.lk, .int .i64 s.st, .int .i64 s.sv, .slice A n k]] W (NewN (numsL s) W)) := fun W _ => by
    rw [← hK]
    exact numbers_any s A n k W hk
  have HSo : Hid (∀ W, Below w1.heap.size w1 W → Below w1.heap.size w1 W ∧ W.cell? ⟨w.heap.size, 0, none⟩ = some (.int .i64 K) ∧ W.cell? ⟨w.heap.size, 1, none⟩ = some (.int .i64 s.cfg.threads) ∧ W.cell? ⟨w.heap.size, 2, none⟩ = some (.int .i64 s.cfg.records) ∧ W.cell? ⟨w.heap.size, 3, none⟩ = some (.int .i64 s.cfg.hazards) ∧ W.cell? ⟨w.heap.size, 4, none⟩ = some (.int .i64 s.cfg.retire) ∧ W.cell? ⟨w.heap.size, 5, none⟩ = some (.int .i64 s.cfg.cache) ∧ W.cell? ⟨w.heap.size, 6, none⟩ = some (.int .i64 s.cfg.slots) ∧ W.cell? ⟨w.heap.size, 7, none⟩ = some (.int .i64 s.cfg.buckets) ∧ W.cell? ⟨w.heap.size, 8, none⟩ = some (.int .i64 s.rt) ∧ W.cell? ⟨w.heap.size, 9, none⟩ = some (.int .i64 s.rc) ∧ W.cell? ⟨w.heap.size, 10, none⟩ = some (.int .i64 s.dt) ∧ W.cell? ⟨w.heap.size, 11, none⟩ = some (.int .i64 s.dr) ∧ W.cell? ⟨w.heap.size, 12, none⟩ = some (.int .i64 s.lt) ∧ W.cell? ⟨w.heap.size, 13, none⟩ = some (.int .i64 s.lk) ∧ W.cell? ⟨w.heap.size, 14, none⟩ = some (.int .i64 s.st) ∧ W.cell? ⟨w.heap.size, 15, none⟩ = some (.int .i64 s.sv) ∧ W.cell? ⟨w.heap.size, 16, none⟩ = some (.slice A n k)) := fun W hB => by
    refine ⟨hB, ?_⟩
    have hb := HB1.out.below hB HB1.out.lt
    rw [← hK]
    exact ⟨hb.cell rfl, hb.cell rfl, hb.cell rfl, hb.cell rfl, hb.cell rfl, hb.cell rfl, hb.cell rfl, hb.cell rfl, hb.cell rfl, hb.cell rfl, hb.cell rfl, hb.cell rfl, hb.cell rfl, hb.cell rfl, hb.cell rfl, hb.cell rfl, hb.cell rfl⟩
  have h6 : 1 ≤ K ∧ K ≤ 6 := by omega
  have HN := Lib.hid (cfg_nums hc)
  have HMany := Lib.hid (nums_many hc)
  have HE := Lib.hid h0
  have HFs := Lib.hid (show fitS s = madeS K ((numsL s).map Int.toNat) by unfold fitS; rw [hK]; rfl)
  have HFit := Lib.hid (fit_same hc)
  have HMade : Hid (∀ W b k', Blk W b 3 ((numsL s).map fun x : Int => Value.int .i64 x) → Calls Try.prog 86 #[.int .i64 K, .slice (some ⟨b, 0, none⟩) (numsL s).length k'] W (MadR (fitS s) W)) := fun W b k' hb => by
    have h9 := made_any K k' ((numsL s).map Int.toNat) (some ⟨b, 0, none⟩) W h6 (by rw [List.length_map, HMany.out, hK]; rfl) (by rw [ints_nats HN.out.2]; exact hb.sl (by simp))
    rw [List.length_map, ← HFs.out] at h9
    exact h9
  obtain ⟨T, hT⟩ : ∃ T, T = fitS s := ⟨_, rfl⟩
  rw [← hT] at HMade
  have HTs := Lib.hid hT
  clear hT
  clear hK h0 hc hk hn6 hB
  go_upto_region 3 with fail
  refine wp_region_held_drew (S := fun W => Below w1.heap.size w1 W ∧ W.cell? ⟨w.heap.size, 0, none⟩ = some (.int .i64 K) ∧ W.cell? ⟨w.heap.size, 1, none⟩ = some (.int .i64 s.cfg.threads) ∧ W.cell? ⟨w.heap.size, 2, none⟩ = some (.int .i64 s.cfg.records) ∧ W.cell? ⟨w.heap.size, 3, none⟩ = some (.int .i64 s.cfg.hazards) ∧ W.cell? ⟨w.heap.size, 4, none⟩ = some (.int .i64 s.cfg.retire) ∧ W.cell? ⟨w.heap.size, 5, none⟩ = some (.int .i64 s.cfg.cache) ∧ W.cell? ⟨w.heap.size, 6, none⟩ = some (.int .i64 s.cfg.slots) ∧ W.cell? ⟨w.heap.size, 7, none⟩ = some (.int .i64 s.cfg.buckets) ∧ W.cell? ⟨w.heap.size, 8, none⟩ = some (.int .i64 s.rt) ∧ W.cell? ⟨w.heap.size, 9, none⟩ = some (.int .i64 s.rc) ∧ W.cell? ⟨w.heap.size, 10, none⟩ = some (.int .i64 s.dt) ∧ W.cell? ⟨w.heap.size, 11, none⟩ = some (.int .i64 s.dr) ∧ W.cell? ⟨w.heap.size, 12, none⟩ = some (.int .i64 s.lt) ∧ W.cell? ⟨w.heap.size, 13, none⟩ = some (.int .i64 s.lk) ∧ W.cell? ⟨w.heap.size, 14, none⟩ = some (.int .i64 s.st) ∧ W.cell? ⟨w.heap.size, 15, none⟩ = some (.int .i64 s.sv) ∧ W.cell? ⟨w.heap.size, 16, none⟩ = some (.slice A n k)) (by kernel_rfl) (HSo.out _ (Below.refl _ _).drew) (fun hS => ?_)
  refine wpAnyH_take (i := 0) (v := .pointer (some ⟨w.heap.size, 0, none⟩)) rfl (by kernel_rfl) (by kernel_rfl) (by kernel_rfl) (fun _ _ _ h => h) (Or.inl ⟨by rfl, ?_⟩) (by assumption) ?_
  · (intro W hSw; (try dsimp only at hSw); go_simp)
  show wpAnyH _ _ _ _ _ _ _ (Act.put _ (some 8) _) _
  simp only [Act.put, List.setIfInBounds_toArray, List.set_cons_zero, List.set_cons_succ]
  refine wpAnyH_take (i := 1) (v := .int .i64 K) rfl (by kernel_rfl) (by kernel_rfl) (by kernel_rfl) (fun _ _ _ h => h) (Or.inl ⟨by rfl, ?_⟩) (by assumption) ?_
  · (intro W hSw; (try dsimp only at hSw); go_simp)
  show wpAnyH _ _ _ _ _ _ _ (Act.put _ (some 9) _) _
  simp only [Act.put, List.setIfInBounds_toArray, List.set_cons_zero, List.set_cons_succ]
  refine wpAnyH_take (i := 2) (v := .agg #[.int .i64 K, .int .i64 s.cfg.threads, .int .i64 s.cfg.records, .int .i64 s.cfg.hazards, .int .i64 s.cfg.retire, .int .i64 s.cfg.cache, .int .i64 s.cfg.slots, .int .i64 s.cfg.buckets, .int .i64 s.rt, .int .i64 s.rc, .int .i64 s.dt, .int .i64 s.dr, .int .i64 s.lt, .int .i64 s.lk, .int .i64 s.st, .int .i64 s.sv, .slice A n k]) rfl (by kernel_rfl) (by kernel_rfl) (by kernel_rfl) (fun _ _ _ h => h) (Or.inl ⟨by rfl, ?_⟩) (by assumption) ?_
  · (intro W hSw; (try dsimp only at hSw); go_simp)
  show wpAnyH _ _ _ _ _ _ _ (Act.put _ (some 10) _) _
  simp only [Act.put, List.setIfInBounds_toArray, List.set_cons_zero, List.set_cons_succ]
  refine wpAnyH_ready (rs := [3, 5]) (by kernel_rfl) (by simp) (AllReadyH.cons rfl (fun K1 hK1 => ?_) (AllReadyH.cons rfl (fun K1 hK1 => ?_) (AllReadyH.nil)))
  · rw [if_pos (by rfl)]
    go_simp
    go_at_call 79
    refine (HNum.out _ (Below.refl w1.heap.size w1).drew).mono ?_
    rintro e W3 ⟨b3, k3, rfl, hg3, hB3, hb3, hk3, hk3m⟩
    have hB3' := Below.step (Below.refl w1.heap.size w1).drew hb3 (Nat.le_refl w1.heap.size)
    refine hK1.out _ _ (HSo.out _ hB3') (fun _ => ?_)
    refine wpAnyH_ready (rs := [4, 5]) (by kernel_rfl) (by simp) (AllReadyH.cons rfl (fun K2 hK2 => ?_) (AllReadyH.cons rfl (fun K2 hK2 => ?_) (AllReadyH.nil)))
    · rw [if_pos (by rfl)]
      go_simp
      go_at_call 86
      refine (HMade.out _ b3 k3 hB3).mono ?_
      rintro e W4 ⟨rfl, hb4⟩
      have hB4' := Below.step hB3' hb4 (Nat.le_refl w1.heap.size)
      refine hK2.out _ _ (HSo.out _ hB4') (fun _ => ?_)
      refine wpAnyH_ready (rs := [5]) (by kernel_rfl) (by simp) (AllReadyH.cons rfl (fun K3 hK3 => ?_) (AllReadyH.nil))
      rw [if_pos (by rfl)]
      go_simp
      refine hK3.out _ _ (HSo.out _ (hB4'.alloc hB4'.size _)) (fun _ => ?_)
      refine wpAnyH_ready (rs := [6]) (by kernel_rfl) (by simp) (AllReadyH.cons rfl (fun K4 hK4 => ?_) (AllReadyH.nil))
      rw [if_pos (by rfl)]
      have hx := Blk.new W4 76 [.int .i64 0, .int .i64 0, .int .i64 0, .int .i64 0, .int .i64 0, .int .i64 0, .int .i64 0, .int .i64 0, .int .i64 0, .int .i64 0, .int .i64 0, .int .i64 0, .int .i64 0, .int .i64 0, .int .i64 0, .int .i64 0, .slice none 0 0]
      refine wp_store_row _ _ _ rfl W4.heap.size _ rfl rfl 76 _ hx size_ses rfl (ses_one T none 0 0) ?_
      have hBf := below_row (w := (W4.alloc (.cells #[.int .i64 0, .int .i64 0, .int .i64 0, .int .i64 0, .int .i64 0, .int .i64 0, .int .i64 0, .int .i64 0, .int .i64 0, .int .i64 0, .int .i64 0, .int .i64 0, .int .i64 0, .int .i64 0, .int .i64 0, .int .i64 0, .slice none 0 0] 76))) (cs := (sesL T (.slice none 0 0)).toArray) (hB4'.alloc hB4'.size _) hB4'.size
      refine hK4.out _ _ (HSo.out _ hBf) (fun _ => ?_)
      refine wpAnyH_done (by kernel_rfl) ?_ _
      have HT5 : Hid (Blk (World.setRow (W4.alloc (.cells #[.int .i64 0, .int .i64 0, .int .i64 0, .int .i64 0, .int .i64 0, .int .i64 0, .int .i64 0, .int .i64 0, .int .i64 0, .int .i64 0, .int .i64 0, .int .i64 0, .int .i64 0, .int .i64 0, .int .i64 0, .int .i64 0, .slice none 0 0] 76)) W4.heap.size (sesL T (.slice none 0 0)).toArray) W4.heap.size 76 (sesL T (.slice none 0 0))) := setRow_heap (W4.alloc (.cells #[.int .i64 0, .int .i64 0, .int .i64 0, .int .i64 0, .int .i64 0, .int .i64 0, .int .i64 0, .int .i64 0, .int .i64 0, .int .i64 0, .int .i64 0, .int .i64 0, .int .i64 0, .int .i64 0, .int .i64 0, .int .i64 0, .slice none 0 0] 76)) W4.heap.size _ (sesL T (.slice none 0 0)).toArray _ _ hx
      have HBf := Lib.hid hBf
      have hgg : w.heap.size + 1 < W4.heap.size := by have := hB4'.size; omega
      clear hx hBf
      generalize World.setRow (W4.alloc (.cells #[.int .i64 0, .int .i64 0, .int .i64 0, .int .i64 0, .int .i64 0, .int .i64 0, .int .i64 0, .int .i64 0, .int .i64 0, .int .i64 0, .int .i64 0, .int .i64 0, .int .i64 0, .int .i64 0, .int .i64 0, .int .i64 0, .slice none 0 0] 76)) W4.heap.size (sesL T (.slice none 0 0)).toArray = W5 at HT5 HBf ⊢
      generalize W4.heap.size = g3 at HT5 hgg ⊢
      have HB5 := Lib.hid (HB1.out.below HBf.out HB1.out.lt)
      have HZ5 := Lib.hid (HZ1.out.below HBf.out HZ1.out.lt)
      have HW5 := Lib.hid (HW1.out.trans (HBf.out.mono HW1.out.size))
      have c16 : W5.cell? ⟨w.heap.size, 16, none⟩ = some (.slice A n k) := HB5.out.cell rfl
      have d16 : W5.cell? ⟨g3, 16, none⟩ = some (.slice none 0 0) := HT5.out.cell rfl
      have f16 := HT5.out.frozen 16
      have hg3l := HT5.out.lt
      clear HBf
      go_upto_region 5 with fail
      have HT6 : Hid (Blk (W5.setCell ⟨g3, 16, none⟩ (.slice A n k)) g3 76 (sesL T (.slice A n k))) := HT5.out.set_ 16 _
      have HZ6 : Hid (Blk (W5.setCell ⟨g3, 16, none⟩ (.slice A n k)) (w.heap.size + 1) 76 [.int .i64 0, .int .i64 0, .int .i64 0, .int .i64 0, .int .i64 0, .int .i64 0, .int .i64 0, .int .i64 0, .int .i64 0, .int .i64 0, .int .i64 0, .int .i64 0, .int .i64 0, .int .i64 0, .int .i64 0, .int .i64 0, .slice none 0 0]) := HZ5.out.far (by dsimp only; omega) _
      have HW6 : Hid (Below w.heap.size w (W5.setCell ⟨g3, 16, none⟩ (.slice A n k))) := HW5.out.setCell (by dsimp only; omega) _
      clear HT5 HZ5 HB5 HW5 c16 d16 f16 hg3l
      generalize W5.setCell ⟨g3, 16, none⟩ (.slice A n k) = W6 at HT6 HZ6 HW6 ⊢
      refine wp_region_lit ?_
      refine wpList_load_row rfl _ _ rfl g3 rfl 76 _ (0, 0) _ HT6.out Try.underlying76 rfl size_ses ?_
      refine wpList_store_row rfl _ _ _ rfl (w.heap.size + 1) _ rfl rfl _ _ HZ6.out size_ses rfl (ses_one T A n k) ?_
      have HR := Lib.hid (setRow_heap W6 (w.heap.size + 1) _ (sesL T (.slice A n k)).toArray _ _ HZ6.out)
      have HW7 := Lib.hid (below_row (g := w.heap.size + 1) (cs := (sesL T (.slice A n k)).toArray) HW6.out (by omega))
      clear HT6 HZ6 HW6
      go_wp2_with fail
      refine bodyPost_ret_by (results_cell_row rfl _ _ (w.heap.size + 1) 76 _ (0, 0) _ rfl HR.out Try.underlying76 rfl size_ses) rfl ?_
      exact fit_end HTs.out HE.out HM.out HBs.out HOk.out HW7.out
    · rw [if_pos (by rfl)]
      go_simp
      refine hK2.out _ _ (HSo.out _ (hB3'.alloc hB3'.size _)) (fun _ => ?_)
      refine wpAnyH_ready (rs := [4]) (by kernel_rfl) (by simp) (AllReadyH.cons rfl (fun K3 hK3 => ?_) (AllReadyH.nil))
      rw [if_pos (by rfl)]
      go_simp
      go_at_call 86
      refine (HMade.out _ b3 k3 (hB3.alloc _)).mono ?_
      rintro e W4 ⟨rfl, hb4⟩
      have hB4' := Below.step (hB3'.alloc hB3'.size _) hb4 (Nat.le_refl w1.heap.size)
      refine hK3.out _ _ (HSo.out _ hB4') (fun _ => ?_)
      refine wpAnyH_ready (rs := [6]) (by kernel_rfl) (by simp) (AllReadyH.cons rfl (fun K4 hK4 => ?_) (AllReadyH.nil))
      rw [if_pos (by rfl)]
      have hx := Blk.below (Blk.new W3 76 [.int .i64 0, .int .i64 0, .int .i64 0, .int .i64 0, .int .i64 0, .int .i64 0, .int .i64 0, .int .i64 0, .int .i64 0, .int .i64 0, .int .i64 0, .int .i64 0, .int .i64 0, .int .i64 0, .int .i64 0, .int .i64 0, .slice none 0 0]) hb4 (lt_new _ _)
      refine wp_store_row _ _ _ rfl W3.heap.size _ rfl rfl 76 _ hx size_ses rfl (ses_one T none 0 0) ?_
      have hBf := below_row (w := W4) (cs := (sesL T (.slice none 0 0)).toArray) hB4' hB3'.size
      refine hK4.out _ _ (HSo.out _ hBf) (fun _ => ?_)
      refine wpAnyH_done (by kernel_rfl) ?_ _
      have HT5 : Hid (Blk (World.setRow W4 W3.heap.size (sesL T (.slice none 0 0)).toArray) W3.heap.size 76 (sesL T (.slice none 0 0))) := setRow_heap W4 W3.heap.size _ (sesL T (.slice none 0 0)).toArray _ _ hx
      have HBf := Lib.hid hBf
      have hgg : w.heap.size + 1 < W3.heap.size := by have := hB3'.size; omega
      clear hx hBf
      generalize World.setRow W4 W3.heap.size (sesL T (.slice none 0 0)).toArray = W5 at HT5 HBf ⊢
      generalize W3.heap.size = g3 at HT5 hgg ⊢
      have HB5 := Lib.hid (HB1.out.below HBf.out HB1.out.lt)
      have HZ5 := Lib.hid (HZ1.out.below HBf.out HZ1.out.lt)
      have HW5 := Lib.hid (HW1.out.trans (HBf.out.mono HW1.out.size))
      have c16 : W5.cell? ⟨w.heap.size, 16, none⟩ = some (.slice A n k) := HB5.out.cell rfl
      have d16 : W5.cell? ⟨g3, 16, none⟩ = some (.slice none 0 0) := HT5.out.cell rfl
      have f16 := HT5.out.frozen 16
      have hg3l := HT5.out.lt
      clear HBf
      go_upto_region 5 with fail
      have HT6 : Hid (Blk (W5.setCell ⟨g3, 16, none⟩ (.slice A n k)) g3 76 (sesL T (.slice A n k))) := HT5.out.set_ 16 _
      have HZ6 : Hid (Blk (W5.setCell ⟨g3, 16, none⟩ (.slice A n k)) (w.heap.size + 1) 76 [.int .i64 0, .int .i64 0, .int .i64 0, .int .i64 0, .int .i64 0, .int .i64 0, .int .i64 0, .int .i64 0, .int .i64 0, .int .i64 0, .int .i64 0, .int .i64 0, .int .i64 0, .int .i64 0, .int .i64 0, .int .i64 0, .slice none 0 0]) := HZ5.out.far (by dsimp only; omega) _
      have HW6 : Hid (Below w.heap.size w (W5.setCell ⟨g3, 16, none⟩ (.slice A n k))) := HW5.out.setCell (by dsimp only; omega) _
      clear HT5 HZ5 HB5 HW5 c16 d16 f16 hg3l
      generalize W5.setCell ⟨g3, 16, none⟩ (.slice A n k) = W6 at HT6 HZ6 HW6 ⊢
      refine wp_region_lit ?_
      refine wpList_load_row rfl _ _ rfl g3 rfl 76 _ (0, 0) _ HT6.out Try.underlying76 rfl size_ses ?_
      refine wpList_store_row rfl _ _ _ rfl (w.heap.size + 1) _ rfl rfl _ _ HZ6.out size_ses rfl (ses_one T A n k) ?_
      have HR := Lib.hid (setRow_heap W6 (w.heap.size + 1) _ (sesL T (.slice A n k)).toArray _ _ HZ6.out)
      have HW7 := Lib.hid (below_row (g := w.heap.size + 1) (cs := (sesL T (.slice A n k)).toArray) HW6.out (by omega))
      clear HT6 HZ6 HW6
      go_wp2_with fail
      refine bodyPost_ret_by (results_cell_row rfl _ _ (w.heap.size + 1) 76 _ (0, 0) _ rfl HR.out Try.underlying76 rfl size_ses) rfl ?_
      exact fit_end HTs.out HE.out HM.out HBs.out HOk.out HW7.out
  · rw [if_pos (by rfl)]
    go_simp
    refine hK1.out _ _ (HSo.out _ ((Below.refl w1.heap.size w1).drew.alloc (Below.refl w1.heap.size w1).drew.size _)) (fun _ => ?_)
    refine wpAnyH_ready (rs := [3]) (by kernel_rfl) (by simp) (AllReadyH.cons rfl (fun K2 hK2 => ?_) (AllReadyH.nil))
    rw [if_pos (by rfl)]
    go_simp
    go_at_call 79
    refine (HNum.out _ ((Below.refl w1.heap.size w1).drew.alloc (Nat.le_refl _) _)).mono ?_
    rintro e W3 ⟨b3, k3, rfl, hg3, hB3, hb3, hk3, hk3m⟩
    have hB3' := Below.step ((Below.refl w1.heap.size w1).drew.alloc (Nat.le_refl _) _) hb3 (Nat.le_refl w1.heap.size)
    refine hK2.out _ _ (HSo.out _ hB3') (fun _ => ?_)
    have hT3 := Blk.below (Blk.new w1.drew 76 [.int .i64 0, .int .i64 0, .int .i64 0, .int .i64 0, .int .i64 0, .int .i64 0, .int .i64 0, .int .i64 0, .int .i64 0, .int .i64 0, .int .i64 0, .int .i64 0, .int .i64 0, .int .i64 0, .int .i64 0, .int .i64 0, .slice none 0 0]) hb3 (lt_new _ _)
    refine wpAnyH_ready (rs := [4]) (by kernel_rfl) (by simp) (AllReadyH.cons rfl (fun K3 hK3 => ?_) (AllReadyH.nil))
    rw [if_pos (by rfl)]
    go_simp
    go_at_call 86
    refine (HMade.out _ b3 k3 hB3).mono ?_
    rintro e W4 ⟨rfl, hb4⟩
    have hB4' := Below.step hB3' hb4 (Nat.le_refl w1.heap.size)
    refine hK3.out _ _ (HSo.out _ hB4') (fun _ => ?_)
    refine wpAnyH_ready (rs := [6]) (by kernel_rfl) (by simp) (AllReadyH.cons rfl (fun K4 hK4 => ?_) (AllReadyH.nil))
    rw [if_pos (by rfl)]
    have hx := hT3.below hb4 hT3.lt
    refine wp_store_row _ _ _ rfl w1.heap.size _ rfl rfl 76 _ hx size_ses rfl (ses_one T none 0 0) ?_
    have hBf := below_row (w := W4) (cs := (sesL T (.slice none 0 0)).toArray) hB4' (Nat.le_refl _)
    refine hK4.out _ _ (HSo.out _ hBf) (fun _ => ?_)
    refine wpAnyH_done (by kernel_rfl) ?_ _
    have HT5 : Hid (Blk (World.setRow W4 w1.heap.size (sesL T (.slice none 0 0)).toArray) w1.heap.size 76 (sesL T (.slice none 0 0))) := setRow_heap W4 w1.heap.size _ (sesL T (.slice none 0 0)).toArray _ _ hx
    have HBf := Lib.hid hBf
    have hgg : w.heap.size + 1 < w1.heap.size := by omega
    clear hx hBf
    generalize World.setRow W4 w1.heap.size (sesL T (.slice none 0 0)).toArray = W5 at HT5 HBf ⊢
    generalize w1.heap.size = g3 at HT5 hgg ⊢
    have HB5 := Lib.hid (HB1.out.below HBf.out HB1.out.lt)
    have HZ5 := Lib.hid (HZ1.out.below HBf.out HZ1.out.lt)
    have HW5 := Lib.hid (HW1.out.trans (HBf.out.mono HW1.out.size))
    have c16 : W5.cell? ⟨w.heap.size, 16, none⟩ = some (.slice A n k) := HB5.out.cell rfl
    have d16 : W5.cell? ⟨g3, 16, none⟩ = some (.slice none 0 0) := HT5.out.cell rfl
    have f16 := HT5.out.frozen 16
    have hg3l := HT5.out.lt
    clear HBf
    go_upto_region 5 with fail
    have HT6 : Hid (Blk (W5.setCell ⟨g3, 16, none⟩ (.slice A n k)) g3 76 (sesL T (.slice A n k))) := HT5.out.set_ 16 _
    have HZ6 : Hid (Blk (W5.setCell ⟨g3, 16, none⟩ (.slice A n k)) (w.heap.size + 1) 76 [.int .i64 0, .int .i64 0, .int .i64 0, .int .i64 0, .int .i64 0, .int .i64 0, .int .i64 0, .int .i64 0, .int .i64 0, .int .i64 0, .int .i64 0, .int .i64 0, .int .i64 0, .int .i64 0, .int .i64 0, .int .i64 0, .slice none 0 0]) := HZ5.out.far (by dsimp only; omega) _
    have HW6 : Hid (Below w.heap.size w (W5.setCell ⟨g3, 16, none⟩ (.slice A n k))) := HW5.out.setCell (by dsimp only; omega) _
    clear HT5 HZ5 HB5 HW5 c16 d16 f16 hg3l
    generalize W5.setCell ⟨g3, 16, none⟩ (.slice A n k) = W6 at HT6 HZ6 HW6 ⊢
    refine wp_region_lit ?_
    refine wpList_load_row rfl _ _ rfl g3 rfl 76 _ (0, 0) _ HT6.out Try.underlying76 rfl size_ses ?_
    refine wpList_store_row rfl _ _ _ rfl (w.heap.size + 1) _ rfl rfl _ _ HZ6.out size_ses rfl (ses_one T A n k) ?_
    have HR := Lib.hid (setRow_heap W6 (w.heap.size + 1) _ (sesL T (.slice A n k)).toArray _ _ HZ6.out)
    have HW7 := Lib.hid (below_row (g := w.heap.size + 1) (cs := (sesL T (.slice A n k)).toArray) HW6.out (by omega))
    clear HT6 HZ6 HW6
    go_wp2_with fail
    refine bodyPost_ret_by (results_cell_row rfl _ _ (w.heap.size + 1) 76 _ (0, 0) _ rfl HR.out Try.underlying76 rfl size_ses) rfl ?_
    exact fit_end HTs.out HE.out HM.out HBs.out HOk.out HW7.out
end Go.Proofs.Ytgbopmgeicokoaa
