/-
  mcas.value, plain, status, record and Check.
-/
import Derived.Test.YtgbopmgeicokoaaProg
import Derived.Test.YtgbopmgeicokoaaMul
import Derived.Deep.LoopGhost
import Derived.Deep.DeepCutAuto
import Derived.Deep.Light
namespace Go.Proofs.Ytgbopmgeicokoaa
open Go.RowKit

theorem value_any (v : Int) (w : World) :
    Calls Try.prog 130 #[.int .i64 v] w fun e w' => e = .returned (.bool (valB v)) ∧ w = w' := by
  by_cases h : 0 ≤ v
  · go_enter Try.func130, Try.ntmps130
    go_wp2
    go_ret
    exact ⟨by simp [valB, h], rfl⟩
  · go_enter Try.func130, Try.ntmps130
    go_wp2
    go_ret
    exact ⟨by congr 1; simp [valB]; omega, rfl⟩

theorem value_t {v : Int} (h : valB v = true) (w : World) :
    Calls Try.prog 130 #[.int .i64 v] w fun e w' => e = .returned (.bool true) ∧ w = w' := by rw [← h]; exact value_any v w

theorem plain_any (v : Int) (h0 : 0 ≤ v) (h1 : v ≤ 1048575) (w : World) :
    Calls Try.prog 104 #[.int .i64 v] w fun e w' => e = .returned (.int .u64 (4 * v)) ∧ w = w' := by
  go_enter Try.func104, Try.ntmps104
  go_wp2
  go_ret
  exact ⟨rfl, rfl⟩

theorem status_any (c : Mul) (A : Option Addr) (n k : Nat) (S : Option Addr) (m l : Nat) (d : Int) (w : World) (h1 : 1 ≤ c.threads) (h2 : c.threads ≤ 16) (h3 : n ≤ 32) (h4 : 0 ≤ d) (h5 : d < 65536) :
    Calls Try.prog 105 #[mulV c A n k S m l, .int .i64 d] w fun e w' => e = .returned (.int .i64 (n + c.threads + 2 * d)) ∧ Below w.heap.size w w' := by
  go_enter Try.func105, Try.ntmps105
  go_wp2
  go_ret
  exact ⟨rfl, (Below.refl _ _).alloc (Nat.le_refl _) _⟩
theorem record_any (c : Mul) (A : Option Addr) (n k : Nat) (S : Option Addr) (m l : Nat) (t : Int) (w : World) (h3 : n ≤ 32) (h4 : 0 ≤ t) (h5 : t < 65536) :
    Calls Try.prog 107 #[mulV c A n k S m l, .int .i64 t] w fun e w' => e = .returned (.int .i64 (n + t)) ∧ Below w.heap.size w w' := by
  go_enter Try.func107, Try.ntmps107
  go_wp2
  go_ret
  exact ⟨rfl, (Below.refl _ _).alloc (Nat.le_refl _) _⟩

/-- the error of a memory -/
def chkE (c : Mul) : Int := if okB c = true then 0 else 250
theorem ents_t {cells : Nat} {last e0 e1 e2 : Int} {r : List Ent} (h1 : last < e0) (h2 : e0 < cells) (h3 : valB e1 = true) : (valB e2 && entsB cells e0 r) = entsB cells last ((e0, e1, e2) :: r) := by
  simp [entsB, h1, h2, h3]

set_option maxRecDepth 100000 in
set_option maxHeartbeats 2000000 in
theorem check_any (c : Mul) (A : Option Addr) (n k : Nat) (S : Option Addr) (m l : Nat) (w : World) (h : MulAt w w.heap.size A n k S m l c) :
    Calls Try.prog 103 #[mulV c A n k S m l] w fun e w' => e = .returned (.int .i64 (chkE c)) ∧ Below w.heap.size w w' := by
  have hn := h.n_eq
  have hm := h.m_eq
  have hk1 := h.nk.1
  have hk2 := h.nk.2
  have hl1 := h.ml.1
  have hl2 := h.ml.2
  unfold maxLen at hk2 hl2
  have Hn := Lib.hid hn
  have Hm := Lib.hid hm
  clear hn hm
  go_enter Try.func103, Try.ntmps103
  go_upto_region 1 with fail
  go_cut [3] from 11 (fun s wc => s = .bool (headB c) ∧ wc = w.alloc (.cells #[.int .i64 c.threads, .slice A n k, .slice S m l, .int .i64 c.uses] 33))
  case first =>
    go_wp2_with fail
    all_goals go_meet
    all_goals refine ⟨congrArg Value.bool ?_, rfl⟩
    all_goals simp only [headB, ← Hn.out, ← Hm.out]
    all_goals go_light
    all_goals (first | (symm; rw [Bool.eq_false_iff]; simp only [ne_eq, Bool.and_eq_true, decide_eq_true_eq]; omega) | (rw [Bool.eq_iff_iff]; simp only [Bool.and_eq_true, decide_eq_true_eq]; omega))
  case rest =>
    obtain ⟨rfl, rfl⟩ := hcut
    have hz : w.heap.size < (w.alloc (.cells #[.int .i64 c.threads, .slice A n k, .slice S m l, .int .i64 c.uses] 33)).heap.size := by simp
    have h' := (h.below ((Below.refl _ _).alloc (Nat.le_refl _) (.cells #[.int .i64 c.threads, .slice A n k, .slice S m l, .int .i64 c.uses] 33)))
    go_wp2_with fail
    go_loopg [3, 50] n (fun g s3 i wr => ∃ (b : Bool) (j : Nat), j + g = n ∧ s3 = .bool b ∧ i = .int .i64 j ∧ (b && (c.cells.drop j).all valB) = (headB c && c.cells.all valB) ∧ wr = w.alloc (.cells #[.int .i64 c.threads, .slice A n k, .slice S m l, .int .i64 c.uses] 33))
    case atStart => exact ⟨headB c, 0, by omega, rfl, rfl, by simp, rfl⟩
    case round =>
      obtain ⟨b, j, hj, rfl, rfl, hb, rfl⟩ := hrel
      have Hb := Lib.hid hb
      clear hb
      by_cases hlt : j < n
      · obtain ⟨x, hx⟩ : ∃ x, c.cells[j]? = some x := ⟨_, List.getElem?_eq_getElem (by rw [← Hn.out]; exact hlt)⟩
        have hd := drop_cons hx
        obtain ⟨bb, o, rfl, hbb, hc⟩ := h.cells.2 (by omega)
        have c0 : w.cell? ⟨bb, o + j, none⟩ = some (.int .i64 x) := hc _ _ (ints_get hx)
        have Hd := Lib.hid hd
        clear hd hx hc h h'
        cases b with
        | false =>
          go_wp2_with fail
          go_roundg (gk - 1)
          case measure => omega
          case rel => exact ⟨false, j + 1, by omega, rfl, by go_num, by have := Hb.out; rw [Hd.out] at this; simpa using this, rfl⟩
        | true =>
          go_wp2_with (go_at_call 130; refine (value_any x _).mono ?_; rintro e w1 ⟨rfl, rfl⟩)
          go_roundg (gk - 1)
          case measure => omega
          case rel => exact ⟨valB x, j + 1, by omega, rfl, by go_num, by have := Hb.out; rw [Hd.out] at this; simpa using this, rfl⟩
      · obtain rfl : n = j := by omega
        have hb2 : b = (headB c && c.cells.all valB) := by
          have := Hb.out
          rw [Hn.out, List.drop_length] at this
          simpa using this
        have Hb2 := Lib.hid hb2
        clear hb2 Hb
        go_wp2_with fail
        go_loopg [3, 63] m (fun g s3 i wr => ∃ (b : Bool) (j : Nat), j + g = m ∧ s3 = .bool b ∧ i = .int .i64 j ∧ Hid ((b && (c.swaps.drop j).all (swapB c.cells.length)) = okB c) ∧ Below (w.alloc (.cells #[.int .i64 c.threads, .slice A n k, .slice S m l, .int .i64 c.uses] 33)).heap.size (w.alloc (.cells #[.int .i64 c.threads, .slice A n k, .slice S m l, .int .i64 c.uses] 33)) wr)
        case atStart => exact ⟨b, 0, by omega, rfl, rfl, by rw [Hb2.out]; simp [okB, Bool.and_assoc, Hid], Below.refl _ _⟩
        case round =>
          clear Hb2
          obtain ⟨b, i, hi, rfl, rfl, Hb, hbr⟩ := hrel
          have hsz : w.heap.size < wr.heap.size := by have := hbr.size; simp at this; omega
          have d1 : wr.cell? ⟨w.heap.size, 1, none⟩ = some (.slice A n k) := (hbr.cell (by simp)).trans (by simp)
          by_cases hlt : i < m
          · obtain ⟨es, hx⟩ : ∃ x, c.swaps[i]? = some x := ⟨_, List.getElem?_eq_getElem (by rw [← Hm.out]; exact hlt)⟩
            have hd := drop_cons hx
            obtain ⟨bb, o, A', n', c', rfl, hbb, hc, hsl, hn', hc1, hc2⟩ := h'.swap hx
            have c0 : wr.cell? ⟨bb, o + i, none⟩ = some (.slice A' n' c') := (hbr.cell (by show bb < _; simp; omega)).trans hc
            have Hd := Lib.hid hd
            have Hn' := Lib.hid hn'
            have hn4 : n' ≤ 9223372036854775807 := by unfold maxLen at hc2; omega
            clear hd hx hc h h' hn' hc2
            go_upto_region 10 with fail
            go_cut [3] (fun s wc => s = .bool (b && (decide (1 ≤ n') && decide (n' ≤ 4))) ∧ wr = wc)
            case first =>
              cases b with
              | false => go_wp2_with fail; go_meet; exact ⟨rfl, rfl⟩
              | true =>
                go_wp2_with fail
                all_goals go_meet
                all_goals refine ⟨congrArg Value.bool ?_, rfl⟩
                all_goals go_light
                all_goals rw [Bool.true_and]
                all_goals (first | (symm; rw [Bool.eq_false_iff]; simp only [ne_eq, Bool.and_eq_true, decide_eq_true_eq]; omega) | (rw [Bool.eq_iff_iff]; simp only [Bool.and_eq_true, decide_eq_true_eq]; omega))
            case rest =>
              obtain ⟨rfl, rfl⟩ := hcut
              generalize hb3 : (b && (decide (1 ≤ n') && decide (n' ≤ 4))) = b3
              have Hb3 := Lib.hid hb3
              clear hb3
              go_wp2_with fail
              obtain ⟨wo, rfl⟩ : ∃ wo : World, wo = wr := ⟨_, rfl⟩
              obtain ⟨gO, rfl⟩ : ∃ g : Nat, g = gk := ⟨_, rfl⟩
              go_loopg [3, 8, 80] n' (fun g s3 s8 i wx => ∃ (b' : Bool) (last : Int) (q : Nat), q + g = n' ∧ s3 = .bool b' ∧ s8 = .int .i64 last ∧ i = .int .i64 q ∧ Hid ((b' && entsB c.cells.length last (es.drop q)) = (b3 && entsB c.cells.length (-1) es)) ∧ Below wo.heap.size wo wx)
              case atStart => exact ⟨b3, -1, 0, by omega, rfl, rfl, rfl, by simp [Hid], Below.refl _ _⟩
              case round =>
                have HdO := Hd
                clear Hd
                obtain ⟨b', last, q, hq, rfl, rfl, rfl, He, hbc⟩ := hrel
                have hsz' : w.heap.size < wr.heap.size := by have := hbc.size; omega
                have d1' : wr.cell? ⟨w.heap.size, 1, none⟩ = some (.slice A n k) := (hbc.cell hsz).trans d1
                by_cases hlt' : q < n'
                · obtain ⟨⟨e0, e1, e2⟩, hx⟩ : ∃ x, es[q]? = some x := ⟨_, List.getElem?_eq_getElem (by rw [← Hn'.out]; exact hlt')⟩
                  have hd := drop_cons hx
                  obtain ⟨g0, g1, g2⟩ := entVals_get _ _ _ hx
                  obtain ⟨b1, o1, rfl, hb1, hc⟩ := hsl.2 (by omega)
                  have hb1' : b1 < wo.heap.size := by omega
                  have hb1'' : b1 < wr.heap.size := by have := hbc.size; omega
                  have hbr1 : ∀ i, wr.cell? ⟨b1, i, none⟩ = (w.alloc (.cells #[.int .i64 c.threads, .slice A n k, .slice (some ⟨bb, o, none⟩) m l, .int .i64 c.uses] 33)).cell? ⟨b1, i, none⟩ := fun i => (hbc.cell hb1').trans (hbr.cell (by show b1 < _; simp; omega))
                  have c0 : wr.cell? ⟨b1, o1 + q * 3, none⟩ = some (.int .i64 e0) := (hbr1 _).trans (hc _ _ g0)
                  have c1 : wr.cell? ⟨b1, o1 + q * 3 + 1, none⟩ = some (.int .i64 e1) := (hbr1 _).trans (hc _ _ g1)
                  have c2 : wr.cell? ⟨b1, o1 + q * 3 + 2, none⟩ = some (.int .i64 e2) := (hbr1 _).trans (hc _ _ g2)
                  have Hd := Lib.hid hd
                  clear hd hx hc hbr1 g0 g1 g2 d1
                  cases b' with
                  | false =>
                    go_wp2_with fail
                    go_roundg (gk - 1)
                    case measure => omega
                    case rel => exact ⟨false, e0, q + 1, by omega, rfl, rfl, by go_num, by have := He.out; rw [Hd.out] at this; simpa [Hid] using this, hbc.alloc hbc.size _⟩
                  | true =>
                    go_wp2_with (go_at_call 130; refine (value_any _ _).mono ?_; rintro e w1 ⟨rfl, rfl⟩)
                    all_goals go_roundg (gk - 1)
                    all_goals first
                      | (show gk - 1 < gk; omega)
                      | (refine ⟨_, e0, q + 1, by omega, rfl, rfl, by go_num, ?_, hbc.alloc hbc.size _⟩
                         have hK := He.out
                         rw [Hd.out, Bool.true_and] at hK
                         go_light
                         unfold Hid
                         rw [← hK]
                         first
                           | (rw [ents_t ‹_› (by rw [← Hn.out]; omega) ‹_›]; done)
                           | (symm
                              simp only [entsB]
                              first
                                | (rw [decide_eq_false (p := last < e0) (by omega)]; rfl)
                                | (rw [decide_eq_false (p := e0 < (c.cells.length : Int)) (by rw [← Hn.out]; omega)]; simp; done)
                                | (simp [*]; done)))
                · obtain rfl : n' = q := by omega
                  have hb5 : b' = (b3 && entsB c.cells.length (-1) es) := by
                    have := He.out
                    rw [Hn'.out, List.drop_length] at this
                    simpa [entsB] using this
                  have Hb5 := Lib.hid hb5
                  clear hb5 He
                  go_wp2_with fail
                  go_roundg (gO - 1)
                  case measure => omega
                  case rel =>
                    refine ⟨b', i + 1, by omega, rfl, by go_num, ?_, hbr.trans (hbc.mono hbr.size)⟩
                    unfold Hid
                    rw [← Hb.out, HdO.out, Hb5.out, ← Hb3.out, Hn'.out]
                    simp [swapB, Bool.and_assoc]
          · obtain rfl : m = i := by omega
            have hb6 : b = okB c := by
              have := Hb.out
              rw [Hm.out, List.drop_length] at this
              simpa using this
            have hbw : Below w.heap.size w wr := ((Below.refl _ _).alloc (Nat.le_refl _) _).trans (hbr.mono (by simp))
            have Hb6 := Lib.hid hb6
            clear hb6 Hb
            cases b with
            | true =>
              go_wp2_with fail
              go_ret
              exact ⟨by unfold chkE; rw [← Hb6.out]; rfl, hbw⟩
            | false =>
              go_wp2_with fail
              go_ret
              exact ⟨by unfold chkE; rw [← Hb6.out]; rfl, hbw⟩
end Go.Proofs.Ytgbopmgeicokoaa
