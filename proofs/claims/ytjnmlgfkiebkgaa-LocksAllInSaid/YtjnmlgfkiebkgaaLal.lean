/-
  LocksAllIn's law.
-/
import Derived.Test.YtjnmlgfkiebkgaaLm
import Derived.KernelRfl
import Derived.Test.YtjnmlgfkiebkgaaLmy
import Derived.Test.YtjnmlgfkiebkgaaLpa
import Derived.Deep.CutBlock
import Derived.BigQuiet
import Derived.WalkSmall
namespace Go.Proofs.Ytjnmlgfkiebkgaa
open Go.RowKit
set_option linter.unusedVariables false
set_option linter.unusedSimpArgs false

def Mc.busy (m : Mc) (t : Nat) : Bool := match m.ths[t]? with | some h => h.task.isSome | none => false
structure As where
  m : Mc
  nx : List Int
def opAt (i : Int) : Int := bif i == 0 then 120 else bif i == 1 then 124 else 121
def thr (times : Int) (t : Nat) (s : As) (th : Int) : Option (As × Int) :=
  bif s.m.busy t then some (⟨(s.m.move ⟨t, 0, 0, 0⟩).2, s.nx⟩, th)
  else bif s.nx[t]?.getD 0 == 3 * times then some (s, th + 1)
  else bif (s.m.move ⟨t, opAt (s.nx[t]?.getD 0 % 3), 0, 0⟩).1 then some (⟨((s.m.move ⟨t, opAt (s.nx[t]?.getD 0 % 3), 0, 0⟩).2.move ⟨t, 0, 0, 0⟩).2, s.nx.set t (s.nx[t]?.getD 0 + 1)⟩, th)
  else none
def rnd (times : Int) : Nat → Nat → As → Int → Option (As × Int)
  | 0, _, s, th => some (s, th)
  | n + 1, t, s, th => match thr times t s th with | none => none | some (s', th') => rnd times n (t + 1) s' th'
def allR (T : Nat) (times : Int) : Nat → As → Bool
  | 0, _ => false
  | n + 1, s => match rnd times T 0 s 0 with
    | none => false
    | some (s', th) => bif th == T then (match s'.m.words with | [] => false | v :: _ => iw v == T * times) else allR T times n s'
def as0 (k : Int) (T : Nat) : As := ⟨mc0 k T, List.replicate T 0⟩
def turnsN (T ti : Nat) : Nat := T * ti * (16 * T * T + 64)
theorem allR_all : ([1, 2, 3, 4, 5, 6, 7].all fun (k : Nat) => [1, 2, 3, 4, 5].all fun (T : Nat) => [1, 2, 3].all fun (ti : Nat) => allR T ti (min 200 (turnsN T ti)) (as0 k T)) = true := by kernel_rfl
theorem allR_mono (T : Nat) (ti : Int) : ∀ (n k : Nat) (s : As), allR T ti n s = true → allR T ti (n + k) s = true := by
  intro n
  induction n with
  | zero => intro k s h; cases h
  | succ n ih =>
    intro k s h
    rw [show n + 1 + k = n + k + 1 by omega]
    rw [allR] at h ⊢
    cases hr : rnd ti T 0 s 0 with
    | none => rw [hr] at h; cases h
    | some p =>
      obtain ⟨s', th⟩ := p
      rw [hr] at h
      dsimp only at h ⊢
      cases he : th == (T : Int)
      · rw [he] at h
        dsimp only [cond_false] at h ⊢
        exact ih k s' h
      · rw [he] at h
        exact h
theorem allR_ok {k T ti : Int} (hk : 1 ≤ k ∧ k ≤ 7) (hT : 1 ≤ T ∧ T ≤ 5) (hti : 1 ≤ ti ∧ ti ≤ 3) : allR T.toNat ti (turnsN T.toNat ti.toNat) (as0 k T.toNat) = true := by
  have h := allR_all
  rw [List.all_eq_true] at h
  have h1 := h k.toNat (by simp only [List.mem_cons, List.not_mem_nil, or_false]; omega)
  rw [List.all_eq_true] at h1
  have h2 := h1 T.toNat (by simp only [List.mem_cons, List.not_mem_nil, or_false]; omega)
  rw [List.all_eq_true] at h2
  have h3 := h2 ti.toNat (by simp only [List.mem_cons, List.not_mem_nil, or_false]; omega)
  have e1 : ((k.toNat : Nat) : Int) = k := by omega
  have e3 : ((ti.toNat : Nat) : Int) = ti := by omega
  rw [e1, e3] at h3
  have h4 := allR_mono _ _ _ (turnsN T.toNat ti.toNat - min 200 (turnsN T.toNat ti.toNat)) _ h3
  rw [show min 200 (turnsN T.toNat ti.toNat) + (turnsN T.toNat ti.toNat - min 200 (turnsN T.toNat ti.toNat)) = turnsN T.toNat ti.toNat by omega] at h4
  exact h4
/-- what the loop keeps -/
structure AsOk (k : Int) (T : Nat) (ti : Int) (s : As) : Prop where
  kd : s.m.kd = k
  th : s.m.ths.length = T
  nl : s.nx.length = T
  nb : ∀ v ∈ s.nx, 0 ≤ v ∧ v ≤ 3 * ti
  wl : s.m.words.length ≤ 8192
end Go.Proofs.Ytjnmlgfkiebkgaa
namespace Go.Proofs.Ytjnmlgfkiebkgaa
open Go.RowKit
set_option linter.unusedVariables false
set_option linter.unusedSimpArgs false

section
variable {W : World} {B : Nat} {M : ML} {m : Mc} {t : Nat}
set_option maxRecDepth 100000 in
set_option maxHeartbeats 4000000 in
theorem busy_any (H : MM W B M m) (ht : t < m.ths.length) : Calls Try.prog 28 #[.pointer (some ⟨M.x, 0, none⟩), .int .i64 t] W fun e w' => e = .returned (.bool (m.busy t)) ∧ w' = W := by
  obtain ⟨h, hh⟩ := at_lt ht
  obtain ⟨_, _, _, hx⟩ := H.xb
  have x8 : W.cell? ⟨M.x, 8, none⟩ = some (.slice (some ⟨M.sg, 0, none⟩) m.ths.length M.sk) := hx.cell rfl
  have s0 : W.cell? ⟨M.sg, t * 5, none⟩ = some (tkV M t h.task) := H.se.cell (by have := thVals_get (M := M) 0 hh 0 (by omega); rw [Nat.zero_add] at this; simpa using this)
  have e1 : (0 : Int) ≤ t := by omega
  have e2 : (t : Int) < m.ths.length := by omega
  have d1 : decide ((0 : Int) ≤ t) = true := decide_eq_true e1
  have d2 : decide ((t : Int) < m.ths.length) = true := decide_eq_true e2
  have hb : m.busy t = h.task.isSome := by unfold Mc.busy; rw [hh]
  rw [hb]
  clear hx H hh hb
  cases hp : h.task with
  | none =>
    rw [hp] at s0
    dsimp only [tkV] at s0
    go_enter Try.func28, Try.ntmps28
    go_wp2_with fail
    go_ret
    exact ⟨rfl, rfl⟩
  | some p =>
    rw [hp] at s0
    dsimp only [tkV] at s0
    go_enter Try.func28, Try.ntmps28
    go_wp2_with fail
    go_ret
    exact ⟨rfl, rfl⟩
end
end Go.Proofs.Ytjnmlgfkiebkgaa
namespace Go.Proofs.Ytjnmlgfkiebkgaa
open Go.RowKit
set_option linter.unusedVariables false
set_option linter.unusedSimpArgs false

theorem thr_ok {k : Int} {T t : Nat} {ti th th' : Int} {s s' : As} (h : AsOk k T ti s) (ht : t < T) (hr : thr ti t s th = some (s', th')) : AsOk k T ti s' := by
  unfold thr at hr
  cases hb : s.m.busy t with
  | true =>
    rw [hb] at hr
    injection hr with hr
    injection hr with h1 h2
    subst h1
    exact ⟨(move_kd _ _).trans h.kd, (move_bnd _ _).2.2.2.trans h.th, h.nl, h.nb, by rw [(move_bnd _ _).1]; exact h.wl⟩
  | false =>
    rw [hb] at hr
    dsimp only [cond_false] at hr
    cases hz : s.nx[t]?.getD 0 == 3 * ti with
    | true =>
      rw [hz] at hr
      injection hr with hr
      injection hr with h1 h2
      subst h1
      exact h
    | false =>
      rw [hz] at hr
      dsimp only [cond_false] at hr
      cases hm : (s.m.move ⟨t, opAt (s.nx[t]?.getD 0 % 3), 0, 0⟩).1 with
      | false => rw [hm] at hr; cases hr
      | true =>
        rw [hm] at hr
        injection hr with hr
        injection hr with h1 h2
        subst h1
        refine ⟨(move_kd _ _).trans ((move_kd _ _).trans h.kd), (move_bnd _ _).2.2.2.trans ((move_bnd _ _).2.2.2.trans h.th), by rw [List.length_set]; exact h.nl, ?_, by rw [(move_bnd _ _).1, (move_bnd _ _).1]; exact h.wl⟩
        intro v hv
        rcases List.mem_or_eq_of_mem_set hv with hv | rfl
        · exact h.nb v hv
        · obtain ⟨z, hz'⟩ := at_lt (l := s.nx) (j := t) (by rw [h.nl]; exact ht)
          rw [hz'] at hz ⊢
          have := h.nb z (List.mem_of_getElem? hz')
          simp only [Option.getD_some, beq_eq_false_iff_ne] at hz ⊢
          omega
theorem MM.offF {W : World} {B : Nat} {M : ML} {m : Mc} (h : MM W B M m) {g : Nat} {t : TypeId} {cs : List Value} (hg : Blk W g t cs) (ht : forT t = true) (i : Nat) (u : Value) : MM (W.setCell ⟨g, i, none⟩ u) B M m := by
  have kb : ∀ {g' : Nat} {t' : TypeId} {cs' : List Value}, Blk W g' t' cs' → forT t' = false → Blk (W.setCell ⟨g, i, none⟩ u) g' t' cs' := fun {g' t' cs'} h h0 => h.far (p := ⟨g, i, none⟩) (fun e => by
    dsimp only at e
    subst e
    rw [blk_type hg h, h0] at ht
    cases ht) u
  have kr : ∀ {g' sz n k : Nat} {t' : TypeId} {cs' : List Value}, Rw W g' t' sz n k cs' → forT t' = false → Rw (W.setCell ⟨g, i, none⟩ u) g' t' sz n k cs' := fun {g' sz n k t' cs'} h h0 => by
    obtain ⟨hl, c, hb, h2⟩ := h
    exact ⟨hl, c, kb hb h0, h2⟩
  have ko : ∀ {B' e s n : Nat} {v : Value} {xs : List Value}, W.ownsRow B' e s v n xs → forT e = false → (W.setCell ⟨g, i, none⟩ u).ownsRow B' e s v n xs := fun h h0 => own_setf h (p := ⟨g, i, none⟩) (fun e => by
    rw [own_type h e.symm hg, h0] at ht
    cases ht) u
  obtain ⟨a, b, c, hx⟩ := h.xb
  obtain ⟨a', hy⟩ := h.yb
  obtain ⟨n, xs, hn, ha⟩ := h.ah
  obtain ⟨z, hz⟩ := h.cv
  exact ⟨⟨a, b, c, kb hx rfl⟩, ⟨a', kb hy rfl⟩, kr h.wr rfl, ko h.lo rfl, ⟨n, xs, hn, ko ha rfl⟩, ko h.ca rfl, kr h.se rfl, kb h.sv rfl, ⟨z, kb hz rfl⟩, kb h.lr rfl,
    fun i g hg => ⟨kb (h.ts i g hg).1 rfl, kb (h.ts i g hg).2.1 (forT_lk _), (h.ts i g hg).2.2⟩, fun i g p hg hp => ⟨kb (h.tk i g p hg hp).1 (forT_tk _), (h.tk i g p hg hp).2⟩, h.i1, h.i2, h.i3, h.bx, h.by_, h.bw, h.bs, h.nm, h.nt, by
      obtain ⟨o, ho, hk⟩ := h.kit
      exact ⟨o, (Below.heap_setCell W ⟨g, i, none⟩ u M.kb (hk.ne ho hg)).trans ho, hk⟩⟩
def allT (T k : Int) : Int := min (fitT T k) 5
def allTi (ti : Int) : Int := bif decide (ti < 1) || decide (3 < ti) then 2 else ti
theorem allT_bnd (T k : Int) : 1 ≤ allT T k ∧ allT T k ≤ 5 ∧ 1 ≤ fitK T k ∧ fitK T k ≤ 7 := by
  obtain ⟨t, h1, h2, h3, h4⟩ := range_nat (fit_range T k)
  unfold allT
  omega
theorem allTi_bnd (ti : Int) : 1 ≤ allTi ti ∧ allTi ti ≤ 3 := by
  unfold allTi
  by_cases h1 : ti < 1
  · simp [h1]
  · by_cases h2 : 3 < ti
    · simp [h1, h2]
    · have e1 : decide (ti < 1) = false := by simpa using h1
      have e2 : decide (3 < ti) = false := by simpa using h2
      rw [e1, e2]
      show 1 ≤ ti ∧ ti ≤ 3
      omega
theorem field_words (A B C D : Option Addr) (a b c d e f g h : Nat) (w : World) : (Instr.field 39 (.agg #[.slice A a b, .slice B c d, .slice C e f, .slice D g h]) 3).run Try.prog w = .ok (.slice D g h) w := by kernel_rfl
theorem info_in : (Try.prog.info? 3).map (fun i => (i.zero, i.size, i.bytes)) = some (some (.int .i64 0), 1, 8) := by kernel_rfl
def i64s (l : List Int) : List Value := l.map (.int .i64)
set_option maxRecDepth 100000 in
set_option maxHeartbeats 16000000 in
theorem law_allin (T0 k0 ti0 : Int) (w : World) : Calls Try.prog 9 #[.agg #[.int .i64 T0, .int .i64 k0], .int .i64 ti0] w (BoolR true w) := by
  obtain ⟨T1, hT1⟩ : ∃ T1, T1 = fitT T0 k0 := ⟨_, rfl⟩
  obtain ⟨k, hk⟩ : ∃ k, k = fitK T0 k0 := ⟨_, rfl⟩
  have hb := allT_bnd T0 k0
  have hF : Hid (∀ w, Calls Try.prog 23 #[.agg #[.int .i64 T0, .int .i64 k0], .slice none 0 0] w (fun e w' => e = .returned (.tuple #[.agg #[.int .i64 T1, .int .i64 k], .slice none 0 0]) ∧ Below w.heap.size w w')) := fun w => by
    have h := fit_any T0 k0 none 0 0 (Or.inl rfl) ⟨Nat.le_refl _, Nat.zero_le _⟩ w
    unfold FitR at h
    rw [← hT1, ← hk] at h
    exact h
  obtain ⟨T, hT⟩ : ∃ T, T = allT T0 k0 := ⟨_, rfl⟩
  rw [← hT, ← hk] at hb
  have hTT : T = min T1 5 := by rw [hT, hT1]; rfl
  clear hT hT1 hk
  go_enter Try.func9, Try.ntmps9
  go_upto_region 1 with fail
  have hb0 : Below w.heap.size w (w.alloc (.cells #[.int .i64 T0, .int .i64 k0] 24)) := (Below.refl _ _).alloc (Nat.le_refl _) _
  have hr0 : Blk (w.alloc (.cells #[.int .i64 T0, .int .i64 k0] 24)) w.heap.size 24 [.int .i64 T0, .int .i64 k0] := Blk.new _ _ _
  generalize w.alloc (.cells #[.int .i64 T0, .int .i64 k0] 24) = w0 at hb0 hr0 ⊢
  have hrl := hr0.lt
  have d0 : w0.cell? ⟨w.heap.size, 0, none⟩ = some (.int .i64 T0) := hr0.cell rfl
  have d1 : w0.cell? ⟨w.heap.size, 1, none⟩ = some (.int .i64 k0) := hr0.cell rfl
  have HB0 := Lib.hid hb0
  have HR0 := Lib.hid hr0
  clear hb0 hr0
  go_wp2_with fail
  refine (hF.out _).mono ?_
  rintro e w1 ⟨rfl, hb1⟩
  have hr1 := HR0.out.below hb1 hrl
  have hl1 := hr1.lt
  have HB1 := Lib.hid (HB0.out.trans (hb1.mono (by omega)))
  have HR1 := Lib.hid hr1
  have d0 : w1.cell? ⟨w.heap.size, 0, none⟩ = some (.int .i64 T0) := hr1.cell rfl
  have d1 : w1.cell? ⟨w.heap.size, 1, none⟩ = some (.int .i64 k0) := hr1.cell rfl
  have f0 := hr1.frozen 0
  have f1 := hr1.frozen 1
  clear hb1 hr1
  go_upto_region 2 with fail
  have hb2 : Below w.heap.size w ((w1.setCell ⟨w.heap.size, 0, none⟩ (.int .i64 T1)).setCell ⟨w.heap.size, 1, none⟩ (.int .i64 k)) := (HB1.out.setCell (p := ⟨w.heap.size, 0, none⟩) (Nat.le_refl _) _).setCell (p := ⟨w.heap.size, 1, none⟩) (Nat.le_refl _) _
  have hr2 : Blk ((w1.setCell ⟨w.heap.size, 0, none⟩ (.int .i64 T1)).setCell ⟨w.heap.size, 1, none⟩ (.int .i64 k)) w.heap.size 24 [.int .i64 T1, .int .i64 k] := (HR1.out.set_ 0 _).set_ 1 _
  generalize (w1.setCell ⟨w.heap.size, 0, none⟩ (.int .i64 T1)).setCell ⟨w.heap.size, 1, none⟩ (.int .i64 k) = w2 at hb2 hr2 ⊢
  have hl2 := hr2.lt
  have d0 : w2.cell? ⟨w.heap.size, 0, none⟩ = some (.int .i64 T1) := hr2.cell rfl
  have d1 : w2.cell? ⟨w.heap.size, 1, none⟩ = some (.int .i64 k) := hr2.cell rfl
  have f0 := hr2.frozen 0
  have HB2 := Lib.hid hb2
  have HR2 := Lib.hid hr2
  clear hb2 hr2
  go_upto_if 21 with fail
  go_cut [4] (fun s4 wc => s4 = .bool false ∧ Below w.heap.size w wc ∧ Blk wc w.heap.size 24 [.int .i64 T, .int .i64 k])
  case first =>
    by_cases h5 : 5 < T1
    · have t5 : (5 : Int) < T1 := h5
      have e9 : T = 5 := by omega
      have HE := Lib.hid e9
      clear e9
      go_wp2_with fail
      go_meet
      exact ⟨rfl, HB2.out.setCell (p := ⟨w.heap.size, 0, none⟩) (Nat.le_refl _) _, by rw [HE.out]; exact HR2.out.set_ 0 _⟩
    · have e9 : T = T1 := by omega
      have HE := Lib.hid e9
      clear e9
      go_wp2_with fail
      go_meet
      exact ⟨rfl, HB2.out, by rw [HE.out]; exact HR2.out⟩
  case rest =>
    obtain ⟨rfl, hb3, hr3⟩ := hcut
    clear hTT
    obtain ⟨w3, rfl⟩ : ∃ w3 : World, w3 = wc := ⟨_, rfl⟩
    have HB3 := Lib.hid hb3
    have HR3 := Lib.hid hr3
    have hl3 := hr3.lt
    have d0 : w3.cell? ⟨w.heap.size, 0, none⟩ = some (.int .i64 T) := hr3.cell rfl
    have d1 : w3.cell? ⟨w.heap.size, 1, none⟩ = some (.int .i64 k) := hr3.cell rfl
    clear hb3 hr3 HB2 HR2
    go_upto_region 4 with fail
    go_cut [28] (fun s28 wc => s28 = .bool (decide (ti0 < 1) || decide (3 < ti0)) ∧ wc = w3)
    case first =>
      by_cases h1 : ti0 < 1
      · have b1 : decide (ti0 < 1) = true := decide_eq_true h1
        go_wp2_with fail
        go_meet
        exact ⟨by rw [b1]; rfl, rfl⟩
      · have b1 : decide (ti0 < 1) = false := decide_eq_false h1
        by_cases h2 : 3 < ti0
        · have b2 : decide (3 < ti0) = true := decide_eq_true h2
          go_wp2_with fail
          go_meet
          exact ⟨by rw [b1, b2]; rfl, rfl⟩
        · have b2 : decide (3 < ti0) = false := decide_eq_false h2
          go_wp2_with fail
          go_meet
          exact ⟨by rw [b1, b2]; rfl, rfl⟩
    case rest =>
      obtain ⟨rfl, hw⟩ := hcut
      replace hw := hw.symm
      subst hw
      go_upto_if 28 with fail
      go_cut [1] (fun s1 wc => s1 = .int .i64 (allTi ti0) ∧ wc = w3)
      case first =>
        cases hb1 : (decide (ti0 < 1) || decide (3 < ti0)) with
        | true =>
          have e9 : allTi ti0 = 2 := by unfold allTi; rw [hb1]; rfl
          have HE := Lib.hid e9
          clear e9
          go_wp2_with fail
          go_meet
          exact ⟨by rw [HE.out], rfl⟩
        | false =>
          have e9 : allTi ti0 = ti0 := by unfold allTi; rw [hb1]; rfl
          have HE := Lib.hid e9
          clear e9
          go_wp2_with fail
          go_meet
          exact ⟨by rw [HE.out], rfl⟩
      case rest =>
        obtain ⟨rfl, hw⟩ := hcut
        replace hw := hw.symm
        subst hw
        have hti := allTi_bnd ti0
        generalize allTi ti0 = ti at hti ⊢
        have hrng : rangeB T k 1 7 = true := by simp only [rangeB, Bool.and_eq_true, decide_eq_true_eq]; omega
        have HN : Hid (∀ w, Calls Try.prog 27 #[.agg #[.int .i64 T, .int .i64 k]] w (fun e w' => ∃ M, e = .returned (.tuple #[.pointer (some ⟨M.x, 0, none⟩), .int .i64 0]) ∧ MM w' w.heap.size M (mc0 k T) ∧ Below w.heap.size w w')) := fun w => new_all hrng w
        have hwl := (lkWords_len hrng).2
        clear hrng
        go_wp2_with fail
        refine (HN.out _).mono ?_
        rintro e w4 ⟨M, rfl, hM4, hb4⟩
        have HM4 := Lib.hid hM4
        have hr4 := HR3.out.below hb4 hl3
        have hl4 := hr4.lt
        have HB4 := Lib.hid (HB3.out.trans (hb4.mono (by omega)))
        have HR4 := Lib.hid hr4
        have hz4 := hb4.size
        clear hM4 hb4 hr4
        go_wp2_with fail
        refine (awake_any _).mono ?_
        rintro e w5 ⟨rfl, hb5⟩
        have HM5 := Lib.hid (HM4.out.on hb5)
        have hr5 := HR4.out.below hb5 hl4
        have hl5 := hr5.lt
        have HB5 := Lib.hid (HB4.out.trans (hb5.mono (by omega)))
        have HR5 := Lib.hid hr5
        have hz5 := hb5.size
        have d0 : w5.cell? ⟨w.heap.size, 0, none⟩ = some (.int .i64 T) := hr5.cell rfl
        have d1 : w5.cell? ⟨w.heap.size, 1, none⟩ = some (.int .i64 k) := hr5.cell rfl
        clear hb5 hr5
        obtain ⟨n, rfl⟩ : ∃ n : Nat, T = n := ⟨T.toNat, by omega⟩
        obtain ⟨q, rfl⟩ : ∃ q : Nat, ti = q := ⟨ti.toNat, by omega⟩
        have hmk : ∀ W : World, (Instr.makeSlice 56 (.int .i64 n) (.int .i64 n)).run Try.prog W = .ok (.slice (some ⟨W.heap.size, 0, none⟩) n n) (W.alloc (.cells (madeCells #[.int .i64 0] n) 3)) := by
          intro W
          exact run_make_row' (P := Try.prog) 56 3 (.int .i64 0) 8 Try.underlying56 info_in rfl .i64 .i64 n (by omega) (by omega) W
        obtain ⟨N, hN⟩ : ∃ N : Nat, N = turnsN n q := ⟨_, rfl⟩
        have hq15 : wrap64 ((n : Int) * q) = n * q ∧ wrap64 (16 * (n : Int)) = 16 * n ∧ wrap64 (16 * (n : Int) * n) = 16 * n * n ∧ wrap64 (16 * (n : Int) * n + 64) = 16 * n * n + 64 ∧ wrap64 ((n : Int) * q * (16 * n * n + 64)) = N ∧ (N : Int) ≤ 100000 := by
          rw [hN]
          have hn5 : n = 1 ∨ n = 2 ∨ n = 3 ∨ n = 4 ∨ n = 5 := by omega
          have hq3 : q = 1 ∨ q = 2 ∨ q = 3 := by omega
          rcases hn5 with rfl | rfl | rfl | rfl | rfl <;> rcases hq3 with rfl | rfl | rfl <;> decide +kernel
        obtain ⟨m1, m2, m3, m4, m5, m6⟩ := hq15
        have HA : Hid (allR n q N (as0 k n) = true) := by
          have h := allR_ok (k := k) (T := n) (ti := q) (by omega) (by omega) (by omega)
          rw [Int.toNat_natCast, Int.toNat_natCast, ← hN] at h
          exact h
        clear hN
        go_upto_region 12 with fail
        simp only [m1, m2, m3, m4, m5]
        have M1' := Lib.hid m1
        clear m1 m2 m3 m4 m5
        have hb6 : Below w5.heap.size w5 ((w5.alloc (.cells #[.int .i64 120, .int .i64 124, .int .i64 121] 74)).alloc (.cells (madeCells #[.int .i64 0] n) 3)) := ((Below.refl _ _).alloc (Nat.le_refl _) _).alloc (by simp) _
        have ho6 : Blk ((w5.alloc (.cells #[.int .i64 120, .int .i64 124, .int .i64 121] 74)).alloc (.cells (madeCells #[.int .i64 0] n) 3)) w5.heap.size 74 [.int .i64 120, .int .i64 124, .int .i64 121] := (Blk.new w5 _ _).alloc _
        have hn6 : Blk ((w5.alloc (.cells #[.int .i64 120, .int .i64 124, .int .i64 121] 74)).alloc (.cells (madeCells #[.int .i64 0] n) 3)) (w5.heap.size + 1) 3 (i64s (List.replicate n 0)) := by
          rw [madeCells_one]
          have := new1_blk' w5 (.cells #[.int .i64 120, .int .i64 124, .int .i64 121] 74) (i64s (List.replicate n 0)) 3
          rw [show i64s (List.replicate n 0) = List.replicate n (.int .i64 0) by simp [i64s]] at this ⊢
          exact this
        generalize (w5.alloc (.cells #[.int .i64 120, .int .i64 124, .int .i64 121] 74)).alloc (.cells (madeCells #[.int .i64 0] n) 3) = w6 at hb6 ho6 hn6 ⊢
        have hr6 := HR5.out.below hb6 hl5
        have HM6 := Lib.hid (HM5.out.on hb6)
        have HB6 := Lib.hid (HB5.out.trans (hb6.mono (by omega)))
        have HO6 := Lib.hid ho6
        have HN6 := Lib.hid hn6
        have HR6 := Lib.hid hr6
        have hA0 : Hid (AsOk k n q (as0 k n)) := ⟨rfl, by show ((List.range (n : Int).toNat).map _).length = n; simp, by show (List.replicate n (0 : Int)).length = n; simp, fun v hv => by
          have := (List.mem_replicate.1 hv).2
          omega, by show (lkWords k n).length ≤ 8192; omega⟩
        have hgo : w3.heap.size ≤ w5.heap.size := by omega
        have hwc : w.heap.size < w3.heap.size := hl3
        obtain ⟨gO, hgO⟩ : ∃ gO, gO = w5.heap.size := ⟨_, rfl⟩
        rw [← hgO] at HO6 HN6 hgo ⊢
        clear hb6 ho6 hn6 hr6 HM5 HM4 HB5 HB4 HB3 HB1 HB0 HR0 HR1 HR3 HR4 HR5 hgO hmk d0 d1
        go_wp2_with fail
        go_loopg [10] N (fun gk i wr => ∃ (j : Nat) (s : As) (M' : ML), j + gk = N ∧ i = .int .i64 j ∧ M'.x = M.x ∧ Hid (AsOk k n q s) ∧ Hid (allR n q gk s = true) ∧ Hid (MM wr w3.heap.size M' s.m) ∧ Hid (Below w.heap.size w wr) ∧ Hid (Blk wr w.heap.size 24 [.int .i64 n, .int .i64 k]) ∧ Hid (Blk wr gO 74 [.int .i64 120, .int .i64 124, .int .i64 121]) ∧ Hid (Blk wr (gO + 1) 3 (i64s s.nx)))
        case atStart => exact ⟨0, as0 k n, M, by omega, rfl, rfl, hA0, HA, HM6.out, HB6.out, HR6.out, HO6.out, HN6.out⟩
        case round =>
          obtain ⟨j, s, M', hj, rfl, hx, hA, hR, hM, hB, hC, hO, hN⟩ := hrel
          have hg0 : gk ≠ 0 := fun e => by
            have h := hR.out
            rw [e, allR] at h
            cases h
          obtain ⟨g, rfl⟩ : ∃ g, gk = g + 1 := ⟨gk - 1, by omega⟩
          have hjN : (j : Int) < N := by omega
          have hR2 := hR.out
          rw [allR] at hR2
          cases hr : rnd q n 0 s 0 with
          | none => rw [hr] at hR2; cases hR2
          | some p =>
            obtain ⟨s', th'⟩ := p
            rw [hr] at hR2
            dsimp only at hR2
            have HR2 := Lib.hid hR2
            have Hr0 := Lib.hid hr
            clear hR2 hr hg0 hR
            go_wp2_with fail
            obtain ⟨wo, rfl⟩ : ∃ wo : World, wo = wr := ⟨_, rfl⟩
            go_loopg [11, 12] n (fun g2 s11 i wq => ∃ (t : Nat) (s1 : As) (th : Int) (M1 : ML), t + g2 = n ∧ i = .int .i64 t ∧ s11 = .int .i64 th ∧ (0 ≤ th ∧ th ≤ t) ∧ M1.x = M.x ∧ Hid (AsOk k n q s1) ∧ Hid (rnd q g2 t s1 th = some (s', th')) ∧ Hid (MM wq w3.heap.size M1 s1.m) ∧ Hid (Below w.heap.size w wq) ∧ Hid (Blk wq w.heap.size 24 [.int .i64 n, .int .i64 k]) ∧ Hid (Blk wq gO 74 [.int .i64 120, .int .i64 124, .int .i64 121]) ∧ Hid (Blk wq (gO + 1) 3 (i64s s1.nx)))
            case atStart => exact ⟨0, s, 0, M', by omega, rfl, rfl, by omega, hx, hA, Hr0.out, hM, hB, hC, hO, hN⟩
            case round =>
              obtain ⟨t, s1, th, M1, ht, rfl, rfl, hth0, hx1, hA1, hR1, hM1, hB1, hC1, hO1, hN1⟩ := hrel
              have c0 : wr.cell? ⟨w.heap.size, 0, none⟩ = some (.int .i64 n) := hC1.out.cell rfl
              by_cases hlt : t < n
              · obtain ⟨g3, rfl⟩ : ∃ g3, gk = g3 + 1 := ⟨gk - 1, by omega⟩
                have hrr := hR1.out
                rw [rnd] at hrr
                cases hth : thr q t s1 th with
                | none => rw [hth] at hrr; cases hrr
                | some p =>
                  obtain ⟨s2, th2⟩ := p
                  rw [hth] at hrr
                  dsimp only at hrr
                  have hA2 := thr_ok hA1.out hlt hth
                  have hbz := busy_any hM1.out (show t < s1.m.ths.length by rw [hA1.out.th]; exact hlt)
                  rw [hx1] at hbz
                  have HBz := Lib.hid hbz
                  have Hrr := Lib.hid hrr
                  have Hth := Lib.hid hth
                  have HA2 := Lib.hid hA2
                  have e1 : (t : Int) < n := by omega
                  clear hbz hrr hth hA2 hR1
                  go_wp2_with fail
                  refine HBz.out.mono ?_
                  rintro e w9 ⟨rfl, h9⟩
                  replace h9 := h9.symm
                  subst h9
                  cases hbu : s1.m.busy t with
                  | true =>
                    have e2 := Hth.out
                    unfold thr at e2
                    rw [hbu] at e2
                    dsimp only [cond_true] at e2
                    injection e2 with e2
                    injection e2 with e2 e3
                    subst e2 e3
                    have hmv := move_any (by rw [hA1.out.kd]; exact kok_all ⟨hb.2.2.1, hb.2.2.2⟩) hM1.out ⟨t, 0, 0, 0⟩ ⟨by show (-9223372036854775808 : Int) ≤ 0; decide, by show (0 : Int) ≤ 9223372036854775807; decide⟩
                    rw [hx1] at hmv
                    have Hmv := Lib.hid hmv
                    clear hmv
                    go_wp2_with fail
                    refine Hmv.out.mono ?_
                    rintro e w8 ⟨rfl, ⟨M2, hx2, hM2⟩, hbk⟩
                    have HM2 := Lib.hid hM2
                    have HBk := Lib.hid hbk
                    clear hM2 hbk
                    go_wp2_with fail
                    go_roundg g3
                    case measure => omega
                    case rel =>
                      exact ⟨t + 1, _, _, M2, by omega, by go_num, rfl, by omega, hx2.trans hx1, HA2.out, Hrr.out, HM2.out, hB1.out.trans (HBk.out.low.mono (by omega)), hC1.out.below HBk.out.low hwc, HBk.out.keep _ _ _ rfl hO1.out, HBk.out.keep _ _ _ rfl hN1.out⟩
                  | false =>
                    obtain ⟨z, hz⟩ := at_lt (l := s1.nx) (j := t) (by rw [hA1.out.nl]; exact hlt)
                    have hzb := hA1.out.nb z (List.mem_of_getElem? hz)
                    have n0 : wr.cell? ⟨gO + 1, t, none⟩ = some (.int .i64 z) := hN1.out.cell (by simp [i64s, hz])
                    have nf := hN1.out.frozen t
                    have nl := hN1.out.lt
                    have ol := hO1.out.lt
                    have t0 : (0 : Int) ≤ t := by omega
                    have q3 : wrap64 (3 * (q : Int)) = 3 * q := IntWalk.wrap64_in _ (by omega)
                    have e2 := Hth.out
                    unfold thr at e2
                    rw [hbu, hz] at e2
                    dsimp only [cond_false, Option.getD_some] at e2
                    have HZ := Lib.hid hz
                    clear hz
                    cases hzq : z == 3 * (q : Int) with
                    | true =>
                      rw [hzq] at e2
                      dsimp only [cond_true] at e2
                      injection e2 with e2
                      injection e2 with e2 e3
                      subst e2 e3
                      have q4 : wrap64 (th + 1) = th + 1 := IntWalk.wrap64_in _ (by omega)
                      go_wp2_with fail
                      go_roundg g3
                      case measure => omega
                      case rel =>
                        exact ⟨t + 1, _, _, M1, by omega, by go_num, rfl, by omega, hx1, HA2.out, Hrr.out, hM1, hB1, hC1, hO1, hN1⟩
                    | false =>
                      rw [hzq] at e2
                      dsimp only [cond_false] at e2
                      have hz9 : z < 3 * q := by have : z ≠ 3 * q := by simpa using hzq
                                                 omega
                      cases hmo : (s1.m.move ⟨t, opAt (z % 3), 0, 0⟩).1 with
                      | false => rw [hmo] at e2; cases e2
                      | true =>
                        rw [hmo] at e2
                        dsimp only [cond_true] at e2
                        injection e2 with e2
                        injection e2 with e2 e3
                        subst e2 e3
                        have q5 : wrap64 (z + 1) = z + 1 := IntWalk.wrap64_in _ (by omega)
                        obtain ⟨r, hr3⟩ : ∃ r : Nat, z % 3 = r ∧ r < 3 := ⟨(z % 3).toNat, by omega, by omega⟩
                        have hrm : Int.tmod z 3 = (r : Int) := by rw [Int.tmod_eq_emod_of_nonneg (by omega)]; omega
                        obtain ⟨o, ho⟩ : ∃ o, o = opAt (z % 3) := ⟨_, rfl⟩
                        have hor : -9223372036854775808 ≤ o ∧ o ≤ 9223372036854775807 := by
                          rw [ho]; unfold opAt
                          cases (z % 3 == 0) <;> cases (z % 3 == 1) <;> decide
                        have o0 : wr.cell? ⟨gO, r, none⟩ = some (.int .i64 o) := by
                          rw [ho, hr3.1]
                          have hr4 : r = 0 ∨ r = 1 ∨ r = 2 := by omega
                          rcases hr4 with rfl | rfl | rfl
                          · exact hO1.out.cell rfl
                          · exact hO1.out.cell rfl
                          · exact hO1.out.cell rfl
                        have r0 : (0 : Int) ≤ r := by omega
                        have r1 : (r : Int) < 3 := by omega
                        have r2 : r < 3 := hr3.2
                        rw [← ho] at hmo HA2 Hrr
                        have HO := Lib.hid ho
                        clear ho hr3
                        have hmv := move_any (by rw [hA1.out.kd]; exact kok_all ⟨hb.2.2.1, hb.2.2.2⟩) hM1.out ⟨t, o, 0, 0⟩ hor
                        rw [hx1] at hmv
                        have Hmv := Lib.hid hmv
                        clear hmv
                        go_wp2_with fail
                        refine Hmv.out.mono ?_
                        rintro e w8 ⟨rfl, ⟨M2, hx2, hM2⟩, hbk⟩
                        rw [hmo]
                        have HM2 := Lib.hid hM2
                        have hn2 := hbk.keep _ _ _ rfl hN1.out
                        have ho2 := hbk.keep _ _ _ rfl hO1.out
                        have hc2 := hC1.out.below hbk.low hwc
                        have HB2 := Lib.hid (hB1.out.trans (hbk.low.mono (by omega)))
                        have n0 : w8.cell? ⟨gO + 1, t, none⟩ = some (.int .i64 z) := hn2.cell (by simp [i64s, HZ.out])
                        have nf := hn2.frozen t
                        have nl := hn2.lt
                        have HN2 := Lib.hid hn2
                        have HO2 := Lib.hid ho2
                        have HC2 := Lib.hid hc2
                        clear hM2 hbk hn2 ho2 hc2
                        go_upto_region 25 with fail
                        have hn3 : Blk (w8.setCell ⟨gO + 1, t, none⟩ (.int .i64 (z + 1))) (gO + 1) 3 (i64s (s1.nx.set t (z + 1))) := by
                          have h := HN2.out.set_ t (.int .i64 (z + 1))
                          rw [show (i64s s1.nx).set t (.int .i64 (z + 1)) = i64s (s1.nx.set t (z + 1)) by simp [i64s, List.map_set]] at h
                          exact h
                        have hm3 : MM (w8.setCell ⟨gO + 1, t, none⟩ (.int .i64 (z + 1))) w3.heap.size M2 (s1.m.move ⟨t, o, 0, 0⟩).2 := HM2.out.offF HN2.out rfl _ _
                        have hb3 := HB2.out.setCell (p := ⟨gO + 1, t, none⟩) (show w.heap.size ≤ gO + 1 by omega) (.int .i64 (z + 1))
                        have hc3 := HC2.out.far (p := ⟨gO + 1, t, none⟩) (show w.heap.size ≠ gO + 1 by omega) (.int .i64 (z + 1))
                        have ho3 := HO2.out.far (p := ⟨gO + 1, t, none⟩) (show gO ≠ gO + 1 by omega) (.int .i64 (z + 1))
                        generalize w8.setCell ⟨gO + 1, t, none⟩ (.int .i64 (z + 1)) = w10 at hn3 hm3 hb3 hc3 ho3 ⊢
                        have hmv := move_any (by rw [move_kd, hA1.out.kd]; exact kok_all ⟨hb.2.2.1, hb.2.2.2⟩) hm3 ⟨t, 0, 0, 0⟩ ⟨by show (-9223372036854775808 : Int) ≤ 0; decide, by show (0 : Int) ≤ 9223372036854775807; decide⟩
                        rw [hx2.trans hx1] at hmv
                        have Hmv2 := Lib.hid hmv
                        have HN3 := Lib.hid hn3
                        have HB3 := Lib.hid hb3
                        have HC3 := Lib.hid hc3
                        have HO3 := Lib.hid ho3
                        clear hmv hn3 hm3 hb3 hc3 ho3 n0 nf o0
                        go_wp2_with fail
                        refine Hmv2.out.mono ?_
                        rintro e w11 ⟨rfl, ⟨M4, hx4, hM4⟩, hbk4⟩
                        have HM4 := Lib.hid hM4
                        have HBk4 := Lib.hid hbk4
                        clear hM4 hbk4
                        go_wp2_with fail
                        go_roundg g3
                        case measure => omega
                        case rel =>
                          exact ⟨t + 1, _, _, M4, by omega, by go_num, rfl, by omega, hx4.trans (hx2.trans hx1), HA2.out, Hrr.out, HM4.out, HB3.out.trans (HBk4.out.low.mono (by omega)), HC3.out.below HBk4.out.low hwc, HBk4.out.keep _ _ _ rfl HO3.out, by
                            have h := HBk4.out.keep _ _ _ rfl HN3.out
                            exact h⟩
              · have htn : t = n := by omega
                subst htn
                have hg20 : gk = 0 := by omega
                subst hg20
                have hrr := hR1.out
                rw [rnd] at hrr
                injection hrr with hrr
                injection hrr with e1 e2
                subst e1 e2
                have hlt2 : ¬ (t : Int) < t := by omega
                cases hth : th == (t : Int) with
                | false =>
                  have h9 := HR2.out
                  rw [hth] at h9
                  dsimp only [cond_false] at h9
                  have H9 := Lib.hid h9
                  clear h9
                  go_wp2_with fail
                  go_roundg g
                  case measure => omega
                  case rel => exact ⟨j + 1, s1, M1, by omega, by go_num, hx1, hA1, H9.out, hM1, hB1, hC1, hO1, hN1⟩
                | true =>
                  have h9 := HR2.out
                  rw [hth] at h9
                  dsimp only [cond_true] at h9
                  have hnm := hM1.out.nm
                  cases hwd : s1.m.words with
                  | nil => rw [hwd] at h9; cases h9
                  | cons v r =>
                    rw [hwd] at h9
                    dsimp only at h9
                    have hlen : s1.m.words.length = r.length + 1 := by rw [hwd]; rfl
                    have hrun := run_any hM1.out ⟨by omega, by omega, hA1.out.wl⟩
                    rw [hx1] at hrun
                    unfold RunR at hrun
                    rw [hwd] at hrun
                    have Hrun := Lib.hid hrun
                    have m1 : wrap64 ((t : Int) * q) = t * q := M1'.out
                    have H9 := Lib.hid h9
                    clear hrun h9 hnm hwd
                    go_wp2_with fail
                    refine Hrun.out.mono ?_
                    rintro e w9 ⟨Ac, kc, At, kt, Aw, kw, rfl, o1, o2, o3, hb9⟩
                    obtain ⟨gw, kw', e9⟩ := own_some o3 (by simp)
                    injection e9 with e9 _ e10
                    subst e9 e10
                    have v0 : w9.cell? ⟨gw, 0, none⟩ = some (.int .u64 v) := o3.cellAt 0 (by simp)
                    have lw : gw < w9.heap.size := (o3.lt gw rfl).2
                    have hc9 := hC1.out.below hb9 hC1.out.lt
                    have d0 : w9.cell? ⟨w.heap.size, 0, none⟩ = some (.int .i64 t) := hc9.cell rfl
                    have hz9 := hc9.lt
                    have HB9 := Lib.hid (hB1.out.trans (hb9.mono (by have := hC1.out.lt; omega)))
                    have p0 : (0 : Int) < ((v :: r).length : Nat) := by simp
                    have p1 : 0 < (v :: r).length := by simp
                    generalize (v :: r).length = nw at p0 p1 ⊢
                    have p2 : decide ((0 : Int) < (nw : Int)) = true := decide_eq_true p0
                    clear o1 o2 o3 hb9 hc9
                    have hfd := @field_words
                    go_upto_region 28 with fail
                    go_quiet (fail)
                    go_wp2_with fail
                    go_ret
                    exact ⟨congrArg (fun b => Ending.returned (.bool b)) H9.out, below_drewN HB9.out nq⟩
end Go.Proofs.Ytjnmlgfkiebkgaa
