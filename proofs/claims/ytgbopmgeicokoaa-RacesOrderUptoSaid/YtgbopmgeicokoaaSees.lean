/-
  reclaimlaw27.sees.
-/
import Derived.Test.YtgbopmgeicokoaaOrd
import Derived.Deep.RegionHeld3
import Derived.Deep.DeepCutAuto
import Derived.BigQuiet
namespace Go.Proofs.Ytgbopmgeicokoaa
open Go.RowKit

/-- access j is a load or swap of a word of order, and access i its last write ahead of it -/
def SeesP (c : Cfg) (tr : List Acc) (i j : Nat) : Prop :=
  ∃ x y, tr[i]? = some x ∧ tr[j]? = some y ∧ i < j ∧ x.addr = y.addr ∧ plainB c x.addr = false ∧ ¬ y.kind = 2 ∧ wroteB x = true ∧ ∀ q z, i < q → q < j → tr[q]? = some z → ¬ (z.addr = x.addr ∧ wroteB z = true)
theorem SeesP.ahead {c : Cfg} {tr : List Acc} {i j : Nat} (h : SeesP c tr i j) : aheadB c tr i j = true := by
  obtain ⟨x, y, hx, hy, hij, ha, hp, hk, hw, hno⟩ := h
  exact ord_sees hx hy hij ha hp hk hw hno
def SeesR (c : Cfg) (tr : List Acc) (i j : Nat) (w : World) (e : Ending) (w' : World) : Prop := ∃ b, e = .returned (.bool b) ∧ (b = true → SeesP c tr i j) ∧ Below w.heap.size w w'
theorem SeesR.no {c : Cfg} {tr : List Acc} {i j : Nat} {w w' : World} (h : Below w.heap.size w w') : SeesR c tr i j w (.returned (.bool false)) w' := ⟨false, rfl, fun h => (by cases h), h⟩
theorem RunAt.cells' {w : World} {B n k b o : Nat} {tr : List Acc} (h : RunAt w B (some ⟨b, o, none⟩) n k tr) {j : Nat} {x : Acc} (hx : tr[j]? = some x) : AccAt x b (o + j * 7) w := by
  obtain ⟨b', o', he, _, h1⟩ := h.at_ hx
  injection he with he
  injection he with h2 h3
  subst h2 h3
  exact h1

set_option maxRecDepth 100000 in
set_option maxHeartbeats 4000000 in
theorem sees_any (c : Cfg) (h0 h2 h3 : Value) (A : Option Addr) (n k : Nat) (tr : List Acc) (w : World) (h : RunAt w w.heap.size A n k tr) (hok : OkC c) (i j : Nat) (hi : i < n) (hj : j < n) :
    Calls Try.prog 29 #[cfgV c, .agg #[h0, .slice A n k, h2, h3], .int .i64 i, .int .i64 j] w (SeesR c tr i j w) := by
  have hlen := h.len
  have hk1 := h.nk.1
  have hk2 := h.nk.2
  unfold maxLen at hk2
  obtain ⟨w0, hw0, hb0, hz0, HA, HR, HT⟩ := two_boxes c w h0 h2 h3 A n k tr h
  have HW0 := Lib.hid hw0
  have HLen := Lib.hid hlen
  have HOk := Lib.hid hok
  clear hw0 h hlen hok
  obtain ⟨x, hx⟩ := at_lt (by rw [HLen.out]; exact hi : i < tr.length)
  obtain ⟨y, hy⟩ := at_lt (by rw [HLen.out]; exact hj : j < tr.length)
  obtain ⟨b, o, rfl, hb, x0, x1, x2, x3, x4, x5, x6⟩ := (HT.out w0 (Below.refl _ _)).at_ hx
  obtain ⟨y0, y1, y2, y3, y4, y5, y6⟩ := (HT.out w0 (Below.refl _ _)).cells' hy
  obtain ⟨p0, p1, p2, p3⟩ := HR.out w0 (Below.refl _ _)
  have e1 : (i : Int) < n := by omega
  have e2 : (j : Int) < n := by omega
  have e4 : (0 : Int) ≤ i := by omega
  have e5 : (0 : Int) ≤ j := by omega
  have hwl : w.heap.size + 1 < w0.heap.size := by omega
  have hbl : b < w0.heap.size := by omega
  have hzz := hb0.size
  clear hz0
  have HX := Lib.hid hx
  have HY := Lib.hid hy
  have HB2 : Hid (Below w0.heap.size w0 ((w0.alloc (.cells #[.int .i64 x.move, .int .i64 x.thread, .int .i64 x.kind, .int .i64 x.addr, .int .u64 x.old, .int .u64 x.new, .int .u64 x.saw] 61)).alloc (.cells #[.int .i64 y.move, .int .i64 y.thread, .int .i64 y.kind, .int .i64 y.addr, .int .u64 y.old, .int .u64 y.new, .int .u64 y.saw] 61))) :=
    ((Below.refl _ _).alloc (Nat.le_refl _) _).alloc (by simp) _
  have HX2 : Hid (Blk ((w0.alloc (.cells #[.int .i64 x.move, .int .i64 x.thread, .int .i64 x.kind, .int .i64 x.addr, .int .u64 x.old, .int .u64 x.new, .int .u64 x.saw] 61)).alloc (.cells #[.int .i64 y.move, .int .i64 y.thread, .int .i64 y.kind, .int .i64 y.addr, .int .u64 y.old, .int .u64 y.new, .int .u64 y.saw] 61)) w0.heap.size 61 (accL x)) :=
    (Blk.new w0 61 (accL x)).alloc _
  have HY2 : Hid (Blk ((w0.alloc (.cells #[.int .i64 x.move, .int .i64 x.thread, .int .i64 x.kind, .int .i64 x.addr, .int .u64 x.old, .int .u64 x.new, .int .u64 x.saw] 61)).alloc (.cells #[.int .i64 y.move, .int .i64 y.thread, .int .i64 y.kind, .int .i64 y.addr, .int .u64 y.old, .int .u64 y.new, .int .u64 y.saw] 61)) (w0.heap.size + 1) 61 (accL y)) := by
    have h9 := Blk.new (w0.alloc (.cells #[.int .i64 x.move, .int .i64 x.thread, .int .i64 x.kind, .int .i64 x.addr, .int .u64 x.old, .int .u64 x.new, .int .u64 x.saw] 61)) 61 (accL y)
    rw [World.size_alloc] at h9
    exact h9
  clear hx hy
  go_enter Try.func29, Try.ntmps29
  go_upto_region 1 with fail
  rw [← HW0.out]
  go_upto_region 3 with fail
  generalize (w0.alloc (.cells #[.int .i64 x.move, .int .i64 x.thread, .int .i64 x.kind, .int .i64 x.addr, .int .u64 x.old, .int .u64 x.new, .int .u64 x.saw] 61)).alloc (.cells #[.int .i64 y.move, .int .i64 y.thread, .int .i64 y.kind, .int .i64 y.addr, .int .u64 y.old, .int .u64 y.new, .int .u64 y.saw] 61) = w2 at HB2 HX2 HY2 ⊢
  clear x0 x1 x2 x3 x4 x5 x6 y0 y1 y2 y3 y4 y5 y6 p0 p1 p2 p3
  have hz2 := HB2.out.size
  have HF2 := Lib.hid (hb0.trans (HB2.out.mono (by omega)))
  obtain ⟨q0, q1, q2, q3, q4, q5, q6⟩ := HA.out w2 HB2.out
  have x3 : w2.cell? ⟨w0.heap.size, 3, none⟩ = some (.int .i64 x.addr) := HX2.out.cell rfl
  have y2 : w2.cell? ⟨w0.heap.size + 1, 2, none⟩ = some (.int .i64 y.kind) := HY2.out.cell rfl
  have y3 : w2.cell? ⟨w0.heap.size + 1, 3, none⟩ = some (.int .i64 y.addr) := HY2.out.cell rfl
  by_cases hji : j ≤ i
  · have d1 : (j : Int) ≤ i := by omega
    have d2 : decide ((j : Int) ≤ i) = true := by simp; omega
    have d3 : decide (j ≤ i) = true := by simp; omega
    go_wp2_with fail
    go_ret
    exact SeesR.no HF2.out
  · have hij : i < j := by omega
    have d2 : ¬ (j : Int) ≤ i := by omega
    have d3 : decide (j ≤ i) = false := by simp; omega
    have d1 : decide ((j : Int) ≤ i) = false := by simp; omega
    clear hji
    by_cases ha : x.addr = y.addr
    case neg =>
      have b1 : (x.addr != y.addr) = true := by simp [ha]
      clear ha
      go_wp2_with fail
      go_ret
      exact SeesR.no HF2.out
    have b1 : (x.addr != y.addr) = false := by simp [ha]
    have HAd := Lib.hid ha
    clear ha
    go_wp2_with fail
    refine (plain_any c HOk.out x.addr _).mono ?_
    rintro e w3 ⟨rfl, hb3⟩
    have hz3 := hb3.size
    have HX3 := Lib.hid (HX2.out.below hb3 HX2.out.lt)
    have HY3 := Lib.hid (HY2.out.below hb3 HY2.out.lt)
    have HB3 := Lib.hid (HB2.out.trans (hb3.mono hz2))
    clear q0 q1 q2 q3 q4 q5 q6 x3 y2 y3
    cases hp : plainB c x.addr with
    | true =>
      clear hp
      go_wp2_with fail
      go_ret
      exact SeesR.no (hb0.trans (HB3.out.mono (by omega)))
    | false =>
      have HP := Lib.hid hp
      clear hp
      have y2 : w3.cell? ⟨w0.heap.size + 1, 2, none⟩ = some (.int .i64 y.kind) := HY3.out.cell rfl
      by_cases hk : y.kind = 2
      case pos =>
        have b2 : (y.kind == 2) = true := by simp [hk]
        clear hk
        go_wp2_with fail
        go_ret
        exact SeesR.no (hb0.trans (HB3.out.mono (by omega)))
      have b2 : (y.kind == 2) = false := by simp [hk]
      have HK := Lib.hid hk
      clear hk
      have x0 : w3.cell? ⟨w0.heap.size, 0, none⟩ = some (.int .i64 x.move) := HX3.out.cell rfl
      have x1 : w3.cell? ⟨w0.heap.size, 1, none⟩ = some (.int .i64 x.thread) := HX3.out.cell rfl
      have x2 : w3.cell? ⟨w0.heap.size, 2, none⟩ = some (.int .i64 x.kind) := HX3.out.cell rfl
      have x3 : w3.cell? ⟨w0.heap.size, 3, none⟩ = some (.int .i64 x.addr) := HX3.out.cell rfl
      have x4 : w3.cell? ⟨w0.heap.size, 4, none⟩ = some (.int .u64 x.old) := HX3.out.cell rfl
      have x5 : w3.cell? ⟨w0.heap.size, 5, none⟩ = some (.int .u64 x.new) := HX3.out.cell rfl
      have x6 : w3.cell? ⟨w0.heap.size, 6, none⟩ = some (.int .u64 x.saw) := HX3.out.cell rfl
      go_wp2_with fail
      refine (rwrote_any x _).mono ?_
      rintro e w4 ⟨rfl, hb4⟩
      have hz4 := hb4.size
      have HX4 := Lib.hid (HX3.out.below hb4 HX3.out.lt)
      have HB4 := Lib.hid (HB3.out.trans (hb4.mono (by omega)))
      clear x0 x1 x2 x3 x4 x5 x6 y2 b1 b2
      cases hw : wroteB x with
      | false =>
        clear hw
        go_wp2_with fail
        go_ret
        exact SeesR.no (hb0.trans (HB4.out.mono (by omega)))
      | true =>
        have HWx := Lib.hid hw
        have hx4l := HX4.out.lt
        clear hw
        go_wp2_with fail
        go_loopg [11] (j - (i + 1)) (fun gk s wr => ∃ q : Nat, q + gk = j ∧ i < q ∧ s = .int .i64 q ∧ Below w4.heap.size w4 wr ∧ Hid (∀ q' z, i < q' → q' < q → tr[q']? = some z → ¬ (z.addr = x.addr ∧ wroteB z = true)))
        case atStart => exact ⟨i + 1, by omega, by omega, by go_num, Below.refl _ _, fun q' z a b => by omega⟩
        case round =>
          obtain ⟨q, hq, hiq, rfl, hbr, HN⟩ := hrel
          have hzr := hbr.size
          by_cases hqj : q < j
          · have hqn : q < n := by omega
            obtain ⟨z, hz⟩ := at_lt (by rw [HLen.out]; exact hqn : q < tr.length)
            have HBr := Lib.hid (HB4.out.trans (hbr.mono (by omega)))
            obtain ⟨z0, z1, z2, z3, z4, z5, z6⟩ := (HT.out wr HBr.out).cells' hz
            obtain ⟨p0, p1, p2, p3⟩ := HR.out wr HBr.out
            have HXr := Lib.hid (HX4.out.below hbr hx4l)
            have x3 : wr.cell? ⟨w0.heap.size, 3, none⟩ = some (.int .i64 x.addr) := HXr.out.cell rfl
            have f1 : (q : Int) < j := by omega
            have f0 : (0 : Int) ≤ q := by omega
            have f2 : (q : Int) < n := by omega
            have HZ := Lib.hid hz
            clear hz
            by_cases hza : z.addr = x.addr
            · have b3 : (z.addr == x.addr) = true := by simp [hza]
              have HZA := Lib.hid hza
              have hbw : w.heap.size + 1 < w4.heap.size := by omega
              have hbb : b < w4.heap.size := by omega
              have HS : Hid (∀ W, Below wr.heap.size wr W → Below wr.heap.size wr W ∧ W.cell? ⟨w.heap.size + 1, 1, none⟩ = some (.slice (some ⟨b, o, none⟩) n k) ∧ W.cell? ⟨w0.heap.size, 3, none⟩ = some (.int .i64 x.addr) ∧ AccAt z b (o + q * 7) W) := fun W hB =>
                ⟨hB, (hB.cell (by dsimp only; omega)).trans p1, (hB.cell (by dsimp only; omega)).trans x3, (hB.cell (by dsimp only; omega)).trans z0, (hB.cell (by dsimp only; omega)).trans z1, (hB.cell (by dsimp only; omega)).trans z2, (hB.cell (by dsimp only; omega)).trans z3, (hB.cell (by dsimp only; omega)).trans z4, (hB.cell (by dsimp only; omega)).trans z5, (hB.cell (by dsimp only; omega)).trans z6⟩
              have HCs : Hid (∀ W, Calls Try.prog 64 #[accV z] W (BoolR (wroteB z) W)) := fun W => rwrote_any z W
              have HSr := Lib.hid (HS.out wr (Below.refl _ _))
              clear hza
              go_upto_region 8 with fail
              go_cut [71] (fun s wc => s = .bool (wroteB z) ∧ Below wr.heap.size wr wc)
              case first =>
                go_region_held3 (fun W => Below wr.heap.size wr W ∧ W.cell? ⟨w.heap.size + 1, 1, none⟩ = some (.slice (some ⟨b, o, none⟩) n k) ∧ W.cell? ⟨w0.heap.size, 3, none⟩ = some (.int .i64 x.addr) ∧ AccAt z b (o + q * 7) W)
                  ((refine HS.out _ ?_; go_split_ands; first | assumption | exact (Below.refl _ _).drew | exact Below.trans ‹Below wr.heap.size wr _› (hb9.mono (‹Below wr.heap.size wr _›).size)))
                  ((go_at_call 64; refine (HCs.out _).mono ?_; rintro e W9 ⟨rfl, hb9⟩))
                all_goals (go_wp2_with fail; go_meet; go_split_ands)
                all_goals exact ⟨rfl, by assumption⟩
              case rest =>
                obtain ⟨rfl, hbc⟩ := hcut
                obtain ⟨W5, rfl⟩ : ∃ W5 : World, W5 = wc := ⟨_, rfl⟩
                clear z0 z1 z2 z3 z4 z5 z6 p0 p1 p2 p3 x3
                cases hwz : wroteB z with
                | true =>
                  clear hwz
                  go_wp2_with fail
                  go_ret
                  exact SeesR.no (hb0.trans ((HBr.out.trans (hbc.mono (by omega))).mono (by omega)))
                | false =>
                  have HWz := Lib.hid hwz
                  clear hwz
                  go_wp2_with fail
                  go_roundg (gk - 1)
                  case measure => omega
                  case rel =>
                    refine ⟨q + 1, by omega, by omega, by go_num, hbr.trans (hbc.mono hzr), fun q' z' g1 g2 hz' => ?_⟩
                    rcases Nat.lt_or_ge q' q with g3 | g3
                    · exact HN.out q' z' g1 g3 hz'
                    · obtain rfl : q' = q := by omega
                      rw [HZ.out] at hz'
                      injection hz' with hz'
                      subst hz'
                      exact fun hh => by rw [HWz.out] at hh; cases hh.2
            · have b3 : (z.addr == x.addr) = false := by simp [hza]
              have HZA := Lib.hid hza
              clear hza
              go_upto_region 8 with fail
              go_quiet (fail)
              go_wp2_with fail
              go_roundg (gk - 1)
              case measure => omega
              case rel =>
                refine ⟨q + 1, by omega, by omega, by go_num, hbr.drewN _, fun q' z' g1 g2 hz' => ?_⟩
                rcases Nat.lt_or_ge q' q with g3 | g3
                · exact HN.out q' z' g1 g3 hz'
                · obtain rfl : q' = q := by omega
                  rw [HZ.out] at hz'
                  injection hz' with hz'
                  subst hz'
                  exact fun hh => HZA.out hh.1
          · obtain rfl : q = j := by omega
            go_wp2_with fail
            go_ret
            exact ⟨true, rfl, fun _ => ⟨x, y, HX.out, HY.out, hij, HAd.out, HP.out, HK.out, HWx.out, HN.out⟩, hb0.trans ((HB4.out.trans (hbr.mono (by omega))).mono (by omega))⟩
end Go.Proofs.Ytgbopmgeicokoaa
