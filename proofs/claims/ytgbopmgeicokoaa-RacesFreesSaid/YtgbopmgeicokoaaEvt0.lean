/-
  Turns of a litmus program under sequential consistency, their events, clocks and races: plain data.
  slices.Clone: of numbers, of registers, of an empty buffer.
  tso.look and tso.belongs, under sequential consistency with empty buffers.
-/
import Derived.Test.YtgbopmgeicokoaaRw0
import Derived.Test.YtgbopmgeicokoaaTck0
import Derived.Test.YtgbopmgeicokoaaAcc
namespace Go.Proofs.Ytgbopmgeicokoaa
open Go.RowKit

structure Tn where
  t : Int
  out : Bool
  a : Int
abbrev tnL (u : Tn) : List Value := [.int .i64 u.t, .bool u.out, .int .i64 u.a]
abbrev tnV (u : Tn) : Value := .agg #[.int .i64 u.t, .bool u.out, .int .i64 u.a]
def tnVals (l : List Tn) : List Value := l.flatMap tnL
structure Ev where
  t : Nat
  k : Int
  a : Nat
  wr : Bool
abbrev evL (e : Ev) : List Value := [.int .i64 e.t, .int .i64 e.k, .int .i64 e.a, .bool e.wr]
abbrev evV (e : Ev) : Value := .agg #[.int .i64 e.t, .int .i64 e.k, .int .i64 e.a, .bool e.wr]
theorem flat_len {α : Type} (f : α → List Value) (q : Nat) (h : ∀ x, (f x).length = q) (l : List α) : (l.flatMap f).length = l.length * q := by
  induction l with
  | nil => simp
  | cons a l ih => rw [List.flatMap_cons, List.length_append, ih, h, List.length_cons, Nat.add_mul]; omega
theorem flat_get {α : Type} (f : α → List Value) (q : Nat) (h : ∀ x, (f x).length = q) {l : List α} : ∀ {j : Nat} {x : α}, l[j]? = some x → ∀ i, i < q → (l.flatMap f)[j * q + i]? = (f x)[i]? := by
  induction l with
  | nil => intro j x h; simp at h
  | cons a l ih =>
    intro j x hx i hi
    rw [List.flatMap_cons]
    cases j with
    | zero =>
      simp at hx
      subst hx
      rw [Nat.zero_mul, Nat.zero_add, List.getElem?_append_left (by rw [h]; exact hi)]
    | succ j =>
      rw [List.getElem?_append_right (by rw [h, Nat.add_mul]; omega), ← ih (j := j) (by simpa using hx) i hi]
      congr 1
      rw [h, Nat.add_mul]
      omega
theorem tnVals_get {l : List Tn} {j : Nat} {x : Tn} (h : l[j]? = some x) (i : Nat) (hi : i < 3) : (tnVals l)[j * 3 + i]? = (tnL x)[i]? := flat_get _ 3 (fun _ => rfl) h i hi
/-- word, register and place of a state -/
def LS.w (S : LS) (a : Nat) : Int := S.ws.getD a 0
def LS.r (S : LS) (t q : Nat) : Int := S.rs.getD (t * 4 + q) 0
def LS.p (S : LS) (t : Nat) : Nat := S.ps.getD t 0
theorem LS.w_at {S : LS} {a : Nat} (h : a < S.ws.length) : S.ws[a]? = some (S.w a) := by unfold LS.w; simp [h]
theorem LS.r_at {S : LS} {t q : Nat} (h : t * 4 + q < S.rs.length) : S.rs[t * 4 + q]? = some (S.r t q) := by unfold LS.r; simp [h]
theorem LS.p_at {S : LS} {t : Nat} (h : t < S.ps.length) : S.ps[t]? = some (S.p t) := by unfold LS.p; simp [h]
/-- what an instruction does to words and registers -/
def effS (S : LS) (t : Nat) (x : Ins) : LS :=
  if x.kind = 1 then ⟨S.ws, S.rs.set (t * 4 + x.reg.toNat) (S.w x.addr.toNat), S.ps⟩
  else if x.kind = 2 then ⟨S.ws.set x.addr.toNat (if 0 ≤ x.src then S.r t x.src.toNat else x.value), S.rs, S.ps⟩
  else if x.kind = 3 then (if S.w x.addr.toNat = x.old then ⟨S.ws.set x.addr.toNat x.value, S.rs.set (t * 4 + x.reg.toNat) 1, S.ps⟩ else ⟨S.ws, S.rs.set (t * 4 + x.reg.toNat) 0, S.ps⟩)
  else if x.kind = 5 then ⟨S.ws, S.rs.set (t * 4 + x.reg.toNat) x.value, S.ps⟩
  else if x.kind = 6 then ⟨S.ws, S.rs.set (t * 4 + x.reg.toNat) (IntKind.i64.wrap (S.r t x.reg.toNat + x.value)), S.ps⟩
  else S
def skipS (S : LS) (t : Nat) (x : Ins) : Nat := if x.kind = 7 ∧ S.r t x.reg.toNat = x.value then x.count.toNat else 0
/-- the state behind an instruction of a thread whose code has c of them -/
def nextS (S : LS) (t c : Nat) (x : Ins) : LS := ⟨(effS S t x).ws, (effS S t x).rs, S.ps.set t (min (S.p t + skipS S t x + 1) c)⟩
def codeOf (l : Lit) (t : Nat) : List Ins := match l.th[t]? with | some x => x.2 | none => []
/-- the instruction that a turn makes -/
def pickS (l : Lit) (S : LS) (u : Tn) : Option Ins := if 0 ≤ u.t ∧ u.t < l.tn ∧ u.out = false then (codeOf l u.t.toNat)[S.p u.t.toNat]? else none
def turnS (l : Lit) (S : LS) (u : Tn) : LS := match pickS l S u with | some x => nextS S u.t.toNat (codeOf l u.t.toNat).length x | none => S
/-- the event that an instruction makes, by the state behind it -/
def eventS (S' : LS) (t : Nat) (x : Ins) : Option Ev :=
  if x.kind = 1 then some ⟨t, 1, x.addr.toNat, false⟩
  else if x.kind = 2 then some ⟨t, 2, x.addr.toNat, true⟩
  else if x.kind = 3 then some ⟨t, 3, x.addr.toNat, decide (S'.r t x.reg.toNat = 1)⟩
  else none
def evOf (l : Lit) (S : LS) (u : Tn) : Option Ev := match pickS l S u with | some x => eventS (turnS l S u) u.t.toNat x | none => none
def firstS (l : Lit) : LS := ⟨l.ws, List.replicate (l.tn * 4) 0, List.replicate l.tn 0⟩
/-- what holds of every state that is come to -/
structure GoodS (l : Lit) (S : LS) : Prop where
  w : S.ws.length = l.wn
  r : S.rs.length = l.tn * 4
  p : S.ps.length = l.tn
  le : ∀ t, t < l.tn → S.p t ≤ (codeOf l t).length
theorem okLit_code {l : Lit} (h : okLit l = true) {t : Nat} {y : Hd × List Ins} (hy : l.th[t]? = some y) : y.1.2.1 ≤ 10 ∧ ∀ x ∈ y.2, okIns l.wn x = true := by
  rw [okLit_th] at h
  simp only [Bool.and_eq_true, List.all_eq_true] at h
  have := h.2 y (List.mem_of_getElem? hy)
  simpa [okTh] using this
theorem okLit_num {l : Lit} (h : okLit l = true) : 1 ≤ l.tn ∧ l.tn ≤ 4 ∧ 1 ≤ l.wn ∧ l.wn ≤ 6 := by
  rw [okLit_th] at h
  simp only [Bool.and_eq_true, decide_eq_true_eq] at h
  obtain ⟨⟨⟨⟨a, b⟩, c⟩, d⟩, _⟩ := h
  exact ⟨a, b, c, d⟩
theorem GoodS.first {l : Lit} (hl : l.ws.length = l.wn) : GoodS l (firstS l) :=
  ⟨hl, List.length_replicate, List.length_replicate, fun t ht => by simp [LS.p, firstS, ht]⟩
theorem effS_len (S : LS) (t : Nat) (x : Ins) : (effS S t x).ws.length = S.ws.length ∧ (effS S t x).rs.length = S.rs.length := by
  unfold effS
  repeat' split
  all_goals simp
theorem nextS_good {l : Lit} {S : LS} (h : GoodS l S) (t : Nat) (x : Ins) : GoodS l (nextS S t (codeOf l t).length x) := by
  obtain ⟨e1, e2⟩ := effS_len S t x
  refine ⟨e1.trans h.w, e2.trans h.r, by unfold nextS; rw [List.length_set]; exact h.p, fun i hi => ?_⟩
  by_cases he : i = t
  · subst he
    simp only [LS.p, nextS, List.getD_eq_getElem?_getD]
    rw [List.getElem?_set_self (by rw [h.p]; exact hi)]
    simp only [Option.getD_some]
    omega
  · have := h.le i hi
    simp only [LS.p, nextS, List.getD_eq_getElem?_getD] at this ⊢
    rw [List.getElem?_set_ne (Ne.symm he)]
    exact this
theorem turnS_good {l : Lit} {S : LS} (h : GoodS l S) (u : Tn) : GoodS l (turnS l S u) := by
  unfold turnS
  split
  · exact nextS_good h _ _
  · exact h
/-- the clocks of a litmus run's threads and words -/
structure TS where
  m : Nat → Clk
  wd : Nat → Clk
def TS.zero : TS := ⟨fun _ _ => 0, fun _ _ => 0⟩
def bumpW (f : Clk) (t : Nat) : Clk := fun k => if k = t then IntKind.i64.wrap (f k + 1) else f k
def tickM (x : TS) (e : Ev) : Clk := if e.k = 3 then maxC (bumpW (x.m e.t) e.t) (x.wd e.a) else bumpW (x.m e.t) e.t
def tickS (x : TS) (e : Ev) : TS := ⟨fun i => if i = e.t then tickM x e else x.m i, fun i => if e.k = 3 ∧ e.wr = true ∧ i = e.a then tickM x e else x.wd i⟩
def tsAt (es : List Ev) : Nat → TS
  | 0 => TS.zero
  | j + 1 => match es[j]? with | some e => tickS (tsAt es j) e | none => tsAt es j
def ckAt (es : List Ev) (j : Nat) : Clk := match es[j]? with | some e => tickM (tsAt es j) e | none => fun _ => 0
theorem tsAt_next {es : List Ev} {j : Nat} {e : Ev} (h : es[j]? = some e) : tsAt es (j + 1) = tickS (tsAt es j) e := by rw [tsAt, h]
theorem ckAt_at {es : List Ev} {j : Nat} {e : Ev} (h : es[j]? = some e) : ckAt es j = tickM (tsAt es j) e := by rw [ckAt, h]
theorem tsAt_app (es fs : List Ev) : ∀ j, j ≤ es.length → tsAt (es ++ fs) j = tsAt es j
  | 0, _ => rfl
  | j + 1, h => by
    obtain ⟨e, he⟩ := at_lt (show j < es.length by omega)
    rw [tsAt_next he, tsAt_next (by rw [List.getElem?_append_left (by omega)]; exact he), tsAt_app es fs j (by omega)]
theorem ckAt_app (es fs : List Ev) (j : Nat) (h : j < es.length) : ckAt (es ++ fs) j = ckAt es j := by
  obtain ⟨e, he⟩ := at_lt h
  rw [ckAt_at he, ckAt_at (es := es ++ fs) (by rw [List.getElem?_append_left (by omega)]; exact he), tsAt_app es fs j (by omega)]
/-- is an event i, ahead of the event b at j in the list, in a race with it -/
def raceE (es : List Ev) (j : Nat) (b : Ev) (i : Nat) : Bool := match es[i]? with
  | some a => decide (a.a = b.a) && (!decide (a.t = b.t) && ((a.wr || b.wr) && (!(decide (a.k = 3) && decide (b.k = 3)) && decide (ckAt es j a.t < ckAt es i a.t))))
  | none => false
theorem raceE_at {es : List Ev} {j i : Nat} {a b : Ev} (h : es[i]? = some a) : raceE es j b i = (decide (a.a = b.a) && (!decide (a.t = b.t) && ((a.wr || b.wr) && (!(decide (a.k = 3) && decide (b.k = 3)) && decide (ckAt es j a.t < ckAt es i a.t))))) := by rw [raceE, h]
abbrev Rk := Nat × Nat × Int
def rkVals (l : List Rk) : List Value := l.flatMap fun r => [.int .i64 r.1, .int .i64 r.2.1, .int .i64 r.2.2]
theorem rkVals_snoc (l : List Rk) (r : Rk) : rkVals (l ++ [r]) = rkVals l ++ [.int .i64 r.1, .int .i64 r.2.1, .int .i64 r.2.2] := by simp [rkVals]
theorem rk_one (i j a : Int) : ∀ u ∈ [Value.int .i64 i, .int .i64 j, .int .i64 a], u.oneCell' = true := by intro u hu; simp at hu; rcases hu with rfl | rfl | rfl <;> rfl
def rcsE (es : List Ev) : Nat → List Rk
  | 0 => []
  | j + 1 => rcsE es j ++ (match es[j]? with | some b => (match (List.range j).find? (raceE es j b) with | some i => [(i, j, (b.a : Int))] | none => []) | none => [])
theorem rcsE_one {es : List Ev} {j i : Nat} {b : Ev} (h : es[j]? = some b) (hf : (List.range j).find? (raceE es j b) = some i) : rcsE es (j + 1) = rcsE es j ++ [(i, j, (b.a : Int))] := by rw [rcsE, h]; simp only [hf]
theorem rcsE_none {es : List Ev} {j : Nat} {b : Ev} (h : es[j]? = some b) (hf : (List.range j).find? (raceE es j b) = none) : rcsE es (j + 1) = rcsE es j := by rw [rcsE, h]; simp only [hf, List.append_nil]
theorem rcsE_len (es : List Ev) : ∀ j, (rcsE es j).length ≤ j
  | 0 => Nat.le_refl _
  | j + 1 => by
    have ih := rcsE_len es j
    rw [rcsE, List.length_append]
    have : ∀ o : List Rk, o.length ≤ 1 → (rcsE es j).length + o.length ≤ j + 1 := fun o h => by omega
    apply this
    split
    · split <;> simp
    · simp
end Go.Proofs.Ytgbopmgeicokoaa
namespace Go.Proofs.Ytgbopmgeicokoaa
open Go.RowKit

theorem info_int1 : (Try.prog.info? 3).map (fun i => (i.zero, i.size, i.bytes)) = some (some (.int .i64 0), 1, 8) := by kernel_rfl
theorem info_reg4 : (Try.prog.info? 173).map (fun i => (i.zero, i.size, i.bytes)) = some (some (.agg #[.int .i64 0, .int .i64 0, .int .i64 0, .int .i64 0]), 4, 32) := by kernel_rfl
theorem ints_one' (l : List Int) : ∀ u ∈ ints l, u.oneCell' = true := by
  intro u hu
  obtain ⟨x, _, rfl⟩ := List.mem_map.1 hu
  rfl
theorem natsI_one' (l : List Nat) : ∀ u ∈ natsI l, u.oneCell' = true := by
  intro u hu
  obtain ⟨x, _, rfl⟩ := List.mem_map.1 hu
  rfl
def CloR (t : TypeId) (sz n : Nat) (xs : List Value) (w : World) (e : Ending) (w' : World) : Prop :=
  ∃ g k, e = .returned (.slice (some ⟨g, 0, none⟩) n k) ∧ w.heap.size ≤ g ∧ Rw w' g t sz n k xs ∧ Below w.heap.size w w'

set_option maxRecDepth 100000 in
set_option maxHeartbeats 4000000 in
theorem cloI_any (b o n k : Nat) (xs : List Value) (w : World) (h : Sl w w.heap.size 1 (some ⟨b, o, none⟩) n xs) (h1 : ∀ u ∈ xs, u.oneCell' = true) (hn : 0 < n ∧ n ≤ 1024) :
    Calls Try.prog 121 #[.slice (some ⟨b, o, none⟩) n k] w (CloR 3 1 n xs w) := by
  obtain ⟨i0, hi0, hi0z, hi0s, hi0b⟩ := info_parts info_int1
  have HS := Lib.hid h
  have H1 := Lib.hid h1
  have qT : ∀ (w : World) (a : Option Addr) (n c : Nat), (binOp .eql 30 (.slice a n c) (.slice none 0 0)).run Try.prog w = .ok (.bool a.isNone) w := fun w a n c => Lib.run_eql_slice_nil w _ _ a n c 0 0 Try.underlying30
  have hn1 := hn.1
  have hn2 := hn.2
  clear h h1 hn
  go_enter Try.func121, Try.ntmps121
  go_wp2_with (at_builtin; go_must (refine wpList_app0 _ rfl _ _ 30 rfl w.heap.size 3 i0 (.int .i64 0) 1 8 Try.underlying30 hi0 hi0z hi0s hi0b rfl (by decide) _ rfl (made_e _ _ _ (Nat.le_refl _)) w.heap.size (some ⟨b, o, none⟩) n k xs rfl (HS.out.below ((Below.refl _ _).alloc (Nat.le_refl _) _)) H1.out (by simp only [maxLen]; omega) (by omega) (by rw [World.size_alloc]; omega) ?_; intro A2 k2 w2 hown2 hb2 hA2 hk1 hk2; have HO2 := Lib.hid hown2; have HB2 := Lib.hid hb2; have hA3 := hA2 hn1; clear hown2 hb2 hA2))
  subst hA3
  go_ret
  obtain ⟨g, hg, hB, hR⟩ := Rw.of_own HO2.out hn1
  injection hg with hg
  injection hg with hg _
  subst hg
  rw [World.size_alloc] at hB hR
  exact ⟨_, k2, rfl, hB, hR, ((Below.refl _ _).alloc (Nat.le_refl _) _).trans (HB2.out.mono (by rw [World.size_alloc]; omega))⟩

set_option maxRecDepth 100000 in
set_option maxHeartbeats 4000000 in
theorem cloR_any (b o n k : Nat) (xs : List Value) (w : World) (h : Sl w w.heap.size 4 (some ⟨b, o, none⟩) n xs) (h1 : ∀ u ∈ xs, u.oneCell' = true) (hn : 0 < n ∧ n ≤ 1024) :
    Calls Try.prog 151 #[.slice (some ⟨b, o, none⟩) n k] w (CloR 173 4 n xs w) := by
  obtain ⟨i0, hi0, hi0z, hi0s, hi0b⟩ := info_parts info_reg4
  have HS := Lib.hid h
  have H1 := Lib.hid h1
  have qT : ∀ (w : World) (a : Option Addr) (n c : Nat), (binOp .eql 110 (.slice a n c) (.slice none 0 0)).run Try.prog w = .ok (.bool a.isNone) w := fun w a n c => Lib.run_eql_slice_nil w _ _ a n c 0 0 Try.underlying110
  have hn1 := hn.1
  have hn2 := hn.2
  clear h h1 hn
  go_enter Try.func151, Try.ntmps151
  go_wp2_with (at_builtin; go_must (refine wpList_app0 _ rfl _ _ 110 rfl w.heap.size 173 i0 (.agg #[.int .i64 0, .int .i64 0, .int .i64 0, .int .i64 0]) 4 32 Try.underlying110 hi0 hi0z hi0s hi0b rfl (by decide) _ rfl (made_e _ _ _ (Nat.le_refl _)) w.heap.size (some ⟨b, o, none⟩) n k xs rfl (HS.out.below ((Below.refl _ _).alloc (Nat.le_refl _) _)) H1.out (by simp only [maxLen]; omega) (by omega) (by rw [World.size_alloc]; omega) ?_; intro A2 k2 w2 hown2 hb2 hA2 hk1 hk2; have HO2 := Lib.hid hown2; have HB2 := Lib.hid hb2; have hA3 := hA2 hn1; clear hown2 hb2 hA2))
  subst hA3
  go_ret
  obtain ⟨g, hg, hB, hR⟩ := Rw.of_own HO2.out hn1
  injection hg with hg
  injection hg with hg _
  subst hg
  rw [World.size_alloc] at hB hR
  exact ⟨_, k2, rfl, hB, hR, ((Below.refl _ _).alloc (Nat.le_refl _) _).trans (HB2.out.mono (by rw [World.size_alloc]; omega))⟩

set_option maxRecDepth 100000 in
theorem cloP_any (w : World) : Calls Try.prog 152 #[.slice none 0 0] w (fun e w' => e = .returned (.slice none 0 0) ∧ w' = w) := by
  have qT : ∀ (w : World) (a : Option Addr) (n c : Nat), (binOp .eql 278 (.slice a n c) (.slice none 0 0)).run Try.prog w = .ok (.bool a.isNone) w := fun w a n c => Lib.run_eql_slice_nil w _ _ a n c 0 0 Try.underlying278
  go_enter Try.func152, Try.ntmps152
  go_wp2_with fail
  go_ret
  exact ⟨rfl, rfl⟩
end Go.Proofs.Ytgbopmgeicokoaa
namespace Go.Proofs.Ytgbopmgeicokoaa
open Go.RowKit

set_option maxRecDepth 100000 in
set_option maxHeartbeats 4000000 in
theorem look_any (l : Lit) (w : World) (h : LitAt w w.heap.size l) : Calls Try.prog 137 #[litV l, .int .i64 1] w (IntR (litErr l) w) := by
  have HB0 : Hid (Blk (w.alloc (.cells #[.slice l.wA l.wn l.wk, .slice l.tA l.tn l.tk] 101)) w.heap.size 101 (litL l)) := Blk.new _ _ _
  have HW0 : Hid (Below w.heap.size w (w.alloc (.cells #[.slice l.wA l.wn l.wk, .slice l.tA l.tn l.tk] 101))) := (Below.refl _ _).alloc (Nat.le_refl _) _
  have HL := Lib.hid h
  clear h
  go_enter Try.func137, Try.ntmps137
  go_upto_region 1 with fail
  generalize w.alloc (.cells #[.slice l.wA l.wn l.wk, .slice l.tA l.tn l.tk] 101) = w0 at HB0 HW0 ⊢
  have q0 : w0.cell? ⟨w.heap.size, 0, none⟩ = some (.slice l.wA l.wn l.wk) := HB0.out.cell rfl
  have q1 : w0.cell? ⟨w.heap.size, 1, none⟩ = some (.slice l.tA l.tn l.tk) := HB0.out.cell rfl
  go_wp2_with fail
  refine (tcheck_any l w0 ((HL.out.keep HW0.out).up HW0.out.size)).mono ?_
  rintro e w1 ⟨rfl, hb1⟩
  have HW1 := Lib.hid (HW0.out.trans (hb1.mono HW0.out.size))
  clear hb1
  by_cases ho : okLit l = true
  · rw [litErr_ok ho]
    have b1 : ((0 : Int) != 0) = false := rfl
    have b2 : decide ((1 : Int) < 1) = false := rfl
    have b3 : decide ((3 : Int) < 1) = false := rfl
    go_wp2_with fail
    go_ret
    exact ⟨by rw [litErr_ok ho]; rfl, HW1.out⟩
  · rw [litErr_no (by simpa using ho)]
    have b1 : ((190 : Int) != 0) = true := rfl
    go_wp2_with fail
    go_ret
    exact ⟨by rw [litErr_no (by simpa using ho)]; rfl, HW1.out⟩

theorem LitAt.heads {w : World} {B : Nat} {l : Lit} (h : LitAt w B l) (h1 : 1 ≤ l.tn) : ∃ b o, l.tA = some ⟨b, o, none⟩ ∧ b < B ∧ ∀ j x, l.th[j]? = some x → w.cell? ⟨b, o + j, none⟩ = some (.slice x.1.1 x.1.2.1 x.1.2.2) := by
  obtain ⟨x, hx⟩ := at_lt (show 0 < l.th.length by rw [h.tlen]; omega)
  obtain ⟨b, o, e, hb, _⟩ := h.head hx
  refine ⟨b, o, e, hb, fun j y hy => ?_⟩
  obtain ⟨b', o', e', _, hc⟩ := h.head hy
  rw [e] at e'
  injection e' with e'
  injection e' with e1 e2
  subst e1 e2
  exact hc
theorem codeOf_at {l : Lit} {t : Nat} {x : Hd × List Ins} (h : l.th[t]? = some x) : codeOf l t = x.2 := by unfold codeOf; rw [h]

set_option maxRecDepth 100000 in
set_option maxHeartbeats 4000000 in
theorem belongs_any (l : Lit) (w : World) (h : SH) (S : LS) (hl : LitAt w w.heap.size l) (hs : StAt w h l.tn l.wn S) (hg : GoodS l S) (hok : okLit l = true) :
    Calls Try.prog 138 #[litV l, .int .i64 1, stV h l.tn l.wn] w (BoolR true w) := by
  obtain ⟨n1, n2, n3, n4⟩ := okLit_num hok
  have HL := Lib.hid hl
  have HS := Lib.hid hs
  have HG := Lib.hid hg
  have HOk := Lib.hid hok
  obtain ⟨tb, to', hta, htb, _⟩ := hl.heads n1
  clear hl hs hg hok
  obtain ⟨wA, wn, wk, ws, tA, tn, tk, th⟩ := l
  have hta' : tA = some ⟨tb, to', none⟩ := hta
  subst hta'
  clear hta
  dsimp only at n1 n2 n3 n4
  have HL0 : Hid (Blk ((w.alloc (.cells #[.slice wA wn wk, .slice (some ⟨tb, to', none⟩) tn tk] 101)).alloc (.cells #[.slice (some ⟨h.gw, 0, none⟩) wn h.kw, .slice (some ⟨h.gr, 0, none⟩) tn h.kr, .slice (some ⟨h.gp, 0, none⟩) tn h.kp, .slice (some ⟨h.gb, 0, none⟩) tn h.kb] 113)) w.heap.size 101 [.slice wA wn wk, .slice (some ⟨tb, to', none⟩) tn tk]) := (Blk.new w 101 [.slice wA wn wk, .slice (some ⟨tb, to', none⟩) tn tk]).alloc _
  have HX0 : Hid (Blk ((w.alloc (.cells #[.slice wA wn wk, .slice (some ⟨tb, to', none⟩) tn tk] 101)).alloc (.cells #[.slice (some ⟨h.gw, 0, none⟩) wn h.kw, .slice (some ⟨h.gr, 0, none⟩) tn h.kr, .slice (some ⟨h.gp, 0, none⟩) tn h.kp, .slice (some ⟨h.gb, 0, none⟩) tn h.kb] 113)) (w.heap.size + 1) 113 (stL h tn wn)) := by
    have h9 := Blk.new (w.alloc (.cells #[.slice wA wn wk, .slice (some ⟨tb, to', none⟩) tn tk] 101)) 113 (stL h tn wn)
    rw [World.size_alloc] at h9
    exact h9
  have HW0 : Hid (Below w.heap.size w ((w.alloc (.cells #[.slice wA wn wk, .slice (some ⟨tb, to', none⟩) tn tk] 101)).alloc (.cells #[.slice (some ⟨h.gw, 0, none⟩) wn h.kw, .slice (some ⟨h.gr, 0, none⟩) tn h.kr, .slice (some ⟨h.gp, 0, none⟩) tn h.kp, .slice (some ⟨h.gb, 0, none⟩) tn h.kb] 113))) := ((Below.refl _ _).alloc (Nat.le_refl _) _).alloc (by simp) _
  go_enter Try.func138, Try.ntmps138
  go_upto_region 1 with fail
  generalize ((w.alloc (.cells #[.slice wA wn wk, .slice (some ⟨tb, to', none⟩) tn tk] 101)).alloc (.cells #[.slice (some ⟨h.gw, 0, none⟩) wn h.kw, .slice (some ⟨h.gr, 0, none⟩) tn h.kr, .slice (some ⟨h.gp, 0, none⟩) tn h.kp, .slice (some ⟨h.gb, 0, none⟩) tn h.kb] 113)) = w0 at HL0 HX0 HW0 ⊢
  have q0 : w0.cell? ⟨w.heap.size, 0, none⟩ = some (.slice wA wn wk) := HL0.out.cell rfl
  have q1 : w0.cell? ⟨w.heap.size, 1, none⟩ = some (.slice (some ⟨tb, to', none⟩) tn tk) := HL0.out.cell rfl
  have s0 : w0.cell? ⟨w.heap.size + 1, 0, none⟩ = some (.slice (some ⟨h.gw, 0, none⟩) wn h.kw) := HX0.out.cell rfl
  have s1 : w0.cell? ⟨w.heap.size + 1, 1, none⟩ = some (.slice (some ⟨h.gr, 0, none⟩) tn h.kr) := HX0.out.cell rfl
  have s2 : w0.cell? ⟨w.heap.size + 1, 2, none⟩ = some (.slice (some ⟨h.gp, 0, none⟩) tn h.kp) := HX0.out.cell rfl
  have s3 : w0.cell? ⟨w.heap.size + 1, 3, none⟩ = some (.slice (some ⟨h.gb, 0, none⟩) tn h.kb) := HX0.out.cell rfl
  have d1 : ((wn : Int) != wn) = false := by simp
  have d2 : ((tn : Int) != tn) = false := by simp
  go_wp2_with fail
  clear d1 d2 q0 q1 s0 s1 s2 s3
  go_loopg [46] tn (fun gk i wr => ∃ j : Nat, j + gk = tn ∧ i = .int .i64 j ∧ Hid (Blk wr w.heap.size 101 [.slice wA wn wk, .slice (some ⟨tb, to', none⟩) tn tk]) ∧ Hid (Blk wr (w.heap.size + 1) 113 (stL h tn wn)) ∧ Hid (Below w.heap.size w wr))
  case atStart => exact ⟨0, by omega, rfl, HL0, HX0, HW0⟩
  case round =>
    obtain ⟨j, hj, rfl, HB, HX, HW⟩ := hrel
    by_cases hlt : j < tn
    · obtain ⟨x, hx⟩ := at_lt (show j < th.length by have := HL.out.tlen; dsimp only at this; omega)
      have hL := HL.out.keep HW.out
      obtain ⟨tb2, to2, hta2, htb2, htc⟩ := hL.head hx
      injection hta2 with hta2
      injection hta2 with e1 e2
      subst e1 e2
      have hcl := hL.clen (List.mem_of_getElem? hx)
      have hle := HG.out.le j hlt
      rw [codeOf_at hx, hcl] at hle
      have h10 := (okLit_code HOk.out hx).1
      have hco := (hL.code x (List.mem_of_getElem? hx)).2.1
      have hn1 := hco.1
      have hn2 := hco.2
      unfold maxLen at hn2
      clear hx hco hL hcl
      obtain ⟨⟨xA, xn, xk⟩, code⟩ := x
      dsimp only at hn1 hn2 htc hle h10
      have HW2 := HS.out.on HW.out
      have c1 := HW2.place (LS.p_at (S := S) (t := j) (by rw [HW2.plen]; exact hlt))
      have c2 := HW2.buf hlt
      clear HW2
      have e1 : (j : Int) < tn := by omega
      have e0 : (0 : Int) ≤ j := by omega
      have q0 : wr.cell? ⟨w.heap.size, 0, none⟩ = some (.slice wA wn wk) := HB.out.cell rfl
      have q1 : wr.cell? ⟨w.heap.size, 1, none⟩ = some (.slice (some ⟨tb, to', none⟩) tn tk) := HB.out.cell rfl
      have s2 : wr.cell? ⟨w.heap.size + 1, 2, none⟩ = some (.slice (some ⟨h.gp, 0, none⟩) tn h.kp) := HX.out.cell rfl
      have s3 : wr.cell? ⟨w.heap.size + 1, 3, none⟩ = some (.slice (some ⟨h.gb, 0, none⟩) tn h.kb) := HX.out.cell rfl
      have x1 : IntKind.i64.wrap ((xn : Int) + 1) = ((xn + 1 : Nat) : Int) := (IntWalk.i64_in _ (by omega)).trans (by simp)
      have HWi : Hid (∀ W, Calls Try.prog 150 #[.int .i64 (S.p j), .int .i64 ((xn + 1 : Nat) : Int)] W (fun e w' => e = .returned (.bool true) ∧ w' = W)) := fun W => win_b W (by simp; omega)
      have d3 : decide ((10 : Int) < 0) = false := rfl
      have d4 : decide ((0 : Int) < 0) = false := rfl
      have d5 : ((1 : Int) == 1) = true := rfl
      go_wp2_with fail
      refine (HWi.out _).mono ?_
      rintro e w1 ⟨rfl, rfl⟩
      go_wp2_with fail
      clear q0 q1 s2 s3 c1 c2 htc e0 e1
      obtain ⟨wo, rfl⟩ : ∃ wo : World, wo = w1 := ⟨_, rfl⟩
      obtain ⟨go, rfl⟩ : ∃ go : Nat, go = gk := ⟨_, rfl⟩
      go_loopg [89] 0 (fun g9 i wb => i = .int .i64 0 ∧ wb = wo)
      case atStart => exact ⟨rfl, rfl⟩
      case round =>
        obtain ⟨rfl, rfl⟩ := hrel
        go_wp2_with fail
        go_roundg (go - 1)
        case measure => omega
        case rel => exact ⟨j + 1, by omega, by go_num, HB, HX, HW⟩
    · obtain rfl : j = tn := by omega
      go_wp2_with fail
      go_ret
      exact ⟨rfl, HW.out⟩

end Go.Proofs.Ytgbopmgeicokoaa
