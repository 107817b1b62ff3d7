/-
  reclaimref03.Spoilt: a run stands as Spoil has left it.
-/
import Derived.Test.YtjnmlgfkiebkgaaLcr
namespace Go.Proofs.Ytjnmlgfkiebkgaa
open Go.RowKit
set_option linter.unusedVariables false
set_option linter.unusedSimpArgs false

theorem acVals_set7 {l : List Ac} {k : Nat} (h : k < l.length) (s : Ac) : (((((((acVals l).set (k * 7) (.int .i64 s.mv)).set (k * 7 + 1) (.int .i64 s.th)).set (k * 7 + 2) (.int .i64 s.kd)).set (k * 7 + 3) (.int .i64 s.ad)).set (k * 7 + 4) (.int .u64 s.old)).set (k * 7 + 5) (.int .u64 s.new)).set (k * 7 + 6) (.int .u64 s.saw) = acVals (l.set k s) := by
  induction l generalizing k with
  | nil => simp at h
  | cons a l ih =>
    cases k with
    | zero => simp [acVals]
    | succ k =>
      have e : acVals (a :: l) = acL a ++ acVals l := rfl
      have e4 : (acL a).length = 7 := rfl
      rw [e, List.set_cons_succ, show acVals (a :: l.set k s) = acL a ++ acVals (l.set k s) from rfl, ← ih (by simpa using h)]
      rw [List.set_append_right _ _ (by omega), List.set_append_right _ _ (by omega), List.set_append_right _ _ (by omega), List.set_append_right _ _ (by omega), List.set_append_right _ _ (by omega), List.set_append_right _ _ (by omega), List.set_append_right _ _ (by omega), e4]
      rw [show (k + 1) * 7 - 7 = k * 7 by omega, show (k + 1) * 7 + 1 - 7 = k * 7 + 1 by omega, show (k + 1) * 7 + 2 - 7 = k * 7 + 2 by omega, show (k + 1) * 7 + 3 - 7 = k * 7 + 3 by omega, show (k + 1) * 7 + 4 - 7 = k * 7 + 4 by omega, show (k + 1) * 7 + 5 - 7 = k * 7 + 5 by omega, show (k + 1) * 7 + 6 - 7 = k * 7 + 6 by omega]
theorem sfVals_set5 {l : List Sf} {k : Nat} (h : k < l.length) (s : Sf) : (((((sfVals l).set (k * 5) (.int .i64 s.mv)).set (k * 5 + 1) (.int .i64 s.th)).set (k * 5 + 2) (.int .i64 s.sl)).set (k * 5 + 3) (.int .i64 s.fr)).set (k * 5 + 4) (.int .i64 s.tt) = sfVals (l.set k s) := by
  induction l generalizing k with
  | nil => simp at h
  | cons a l ih =>
    cases k with
    | zero => simp [sfVals]
    | succ k =>
      have e : sfVals (a :: l) = sfL a ++ sfVals l := rfl
      have e4 : (sfL a).length = 5 := rfl
      rw [e, List.set_cons_succ, show sfVals (a :: l.set k s) = sfL a ++ sfVals (l.set k s) from rfl, ← ih (by simpa using h)]
      rw [List.set_append_right _ _ (by omega), List.set_append_right _ _ (by omega), List.set_append_right _ _ (by omega), List.set_append_right _ _ (by omega), List.set_append_right _ _ (by omega), e4]
      rw [show (k + 1) * 5 - 5 = k * 5 by omega, show (k + 1) * 5 + 1 - 5 = k * 5 + 1 by omega, show (k + 1) * 5 + 2 - 5 = k * 5 + 2 by omega, show (k + 1) * 5 + 3 - 5 = k * 5 + 3 by omega, show (k + 1) * 5 + 4 - 5 = k * 5 + 4 by omega]
theorem u64s_set {l : List Int} {k : Nat} (h : k < l.length) (s : Int) : (u64s l).set k (.int .u64 s) = u64s (l.set k s) := by
  unfold u64s
  rw [List.map_set]
/-- marks -/
def mk_c (M : Int) (n : Nat) : List Cal := (List.range n).map fun i : Nat => ⟨M + i, 0, -M, 0, 0, 0, 0, 0, 0⟩
/-- marks behind -/
def tl_c (M : Int) (n : Nat) : List Cal := (List.range n).map fun k : Nat => ⟨-M - k, 0, 0, 0, 0, 0, 0, 0, 0⟩
def sp_c (M : Int) (n : Nat) : List Cal := mk_c M n ++ tl_c M 70
theorem mk_c_len (M : Int) (n : Nat) : (mk_c M n).length = n := by simp [mk_c]
theorem tl_c_len (M : Int) (n : Nat) : (tl_c M n).length = n := by simp [tl_c]
theorem mk_c_next {M : Int} {j : Nat} {l : List Cal} (h : j < l.length) : (mk_c M j ++ l.drop j).set j (⟨M + j, 0, -M, 0, 0, 0, 0, 0, 0⟩) = mk_c M (j + 1) ++ l.drop (j + 1) := by
  have e := mk_c_len M j
  rw [List.set_append_right _ _ (by omega), e, Nat.sub_self, List.drop_eq_getElem_cons h, List.set_cons_zero]
  rw [mk_c, mk_c, List.range_succ, List.map_append, List.append_assoc]
  rfl
theorem tl_c_next {M : Int} {q : Nat} : tl_c M q ++ [(⟨-M - q, 0, 0, 0, 0, 0, 0, 0, 0⟩ : Cal)] = tl_c M (q + 1) := by
  rw [tl_c, tl_c, List.range_succ, List.map_append]
  rfl
/-- marks -/
def mk_t (M : Int) (n : Nat) : List Ac := (List.range n).map fun i : Nat => ⟨M + i, 0, 0, -M, 0, 0, 0⟩
/-- marks behind -/
def tl_t (M : Int) (n : Nat) : List Ac := (List.range n).map fun k : Nat => ⟨-M - k, 0, 0, 0, 0, 0, 0⟩
def sp_t (M : Int) (n : Nat) : List Ac := mk_t M n ++ tl_t M 70
theorem mk_t_len (M : Int) (n : Nat) : (mk_t M n).length = n := by simp [mk_t]
theorem tl_t_len (M : Int) (n : Nat) : (tl_t M n).length = n := by simp [tl_t]
theorem mk_t_next {M : Int} {j : Nat} {l : List Ac} (h : j < l.length) : (mk_t M j ++ l.drop j).set j (⟨M + j, 0, 0, -M, 0, 0, 0⟩) = mk_t M (j + 1) ++ l.drop (j + 1) := by
  have e := mk_t_len M j
  rw [List.set_append_right _ _ (by omega), e, Nat.sub_self, List.drop_eq_getElem_cons h, List.set_cons_zero]
  rw [mk_t, mk_t, List.range_succ, List.map_append, List.append_assoc]
  rfl
theorem tl_t_next {M : Int} {q : Nat} : tl_t M q ++ [(⟨-M - q, 0, 0, 0, 0, 0, 0⟩ : Ac)] = tl_t M (q + 1) := by
  rw [tl_t, tl_t, List.range_succ, List.map_append]
  rfl
/-- marks -/
def mk_s (M : Int) (n : Nat) : List Sf := (List.range n).map fun i : Nat => ⟨M + i, 0, -M, 0, 0⟩
/-- marks behind -/
def tl_s (M : Int) (n : Nat) : List Sf := (List.range n).map fun k : Nat => ⟨-M - k, 0, 0, 0, 0⟩
def sp_s (M : Int) (n : Nat) : List Sf := mk_s M n ++ tl_s M 70
theorem mk_s_len (M : Int) (n : Nat) : (mk_s M n).length = n := by simp [mk_s]
theorem tl_s_len (M : Int) (n : Nat) : (tl_s M n).length = n := by simp [tl_s]
theorem mk_s_next {M : Int} {j : Nat} {l : List Sf} (h : j < l.length) : (mk_s M j ++ l.drop j).set j (⟨M + j, 0, -M, 0, 0⟩) = mk_s M (j + 1) ++ l.drop (j + 1) := by
  have e := mk_s_len M j
  rw [List.set_append_right _ _ (by omega), e, Nat.sub_self, List.drop_eq_getElem_cons h, List.set_cons_zero]
  rw [mk_s, mk_s, List.range_succ, List.map_append, List.append_assoc]
  rfl
theorem tl_s_next {M : Int} {q : Nat} : tl_s M q ++ [(⟨-M - q, 0, 0, 0, 0⟩ : Sf)] = tl_s M (q + 1) := by
  rw [tl_s, tl_s, List.range_succ, List.map_append]
  rfl
/-- marks -/
def mk_u (M : Int) (n : Nat) : List Int := (List.range n).map fun i : Nat => M + i
/-- marks behind -/
def tl_u (M : Int) (n : Nat) : List Int := (List.range n).map fun _ : Nat => M + 1000000
def sp_u (M : Int) (n : Nat) : List Int := mk_u M n ++ tl_u M 70
theorem mk_u_len (M : Int) (n : Nat) : (mk_u M n).length = n := by simp [mk_u]
theorem tl_u_len (M : Int) (n : Nat) : (tl_u M n).length = n := by simp [tl_u]
theorem mk_u_next {M : Int} {j : Nat} {l : List Int} (h : j < l.length) : (mk_u M j ++ l.drop j).set j (M + j) = mk_u M (j + 1) ++ l.drop (j + 1) := by
  have e := mk_u_len M j
  rw [List.set_append_right _ _ (by omega), e, Nat.sub_self, List.drop_eq_getElem_cons h, List.set_cons_zero]
  rw [mk_u, mk_u, List.range_succ, List.map_append, List.append_assoc]
  rfl
theorem tl_u_next {M : Int} {q : Nat} : tl_u M q ++ [(M + 1000000 : Int)] = tl_u M (q + 1) := by
  rw [tl_u, tl_u, List.range_succ, List.map_append]
  rfl
theorem u1_one (z : Int) : ∀ u ∈ [Value.int .u64 z], u.oneCell' = true := by
  intro u hu
  rw [List.mem_singleton] at hu
  subst hu
  rfl
theorem gb_set (w : World) (g i : Nat) (u : Value) : w.grownBy (w.setCell ⟨g, i, none⟩ u) (some g) :=
  ⟨rfl, rfl, rfl, by simp, fun k _ hne => Below.heap_setCell w ⟨g, i, none⟩ u k (fun e => hne (by rw [e]))⟩
theorem spo_box {W X : World} {g B sz n : Nat} {o : Obj} {e t : TypeId} {v : Value} {xs cs : List Value} (hb : Blk W g t cs) (ho : W.ownsRow B e sz v n xs) (hne : e ≠ t) (hg : (W.alloc o).grownBy X v.ownBlock) : Blk X g t cs :=
  (hb.alloc o).grown hg (own_blk_ne (ho.alloc o) (hb.alloc o) hne)
/-- what stays but for some blocks -/
structure Kp (S : Nat → Prop) (w w' : World) : Prop where
  os : w'.os = w.os
  tape : w'.tape = w.tape
  output : w'.output = w.output
  size : w.heap.size ≤ w'.heap.size
  block : ∀ b, b < w.heap.size → ¬ S b → w'.heap[b]? = w.heap[b]?
section
variable {S : Nat → Prop} {w w' w'' : World}
theorem Kp.refl : Kp S w w := ⟨rfl, rfl, rfl, Nat.le_refl _, fun _ _ _ => rfl⟩
theorem Kp.trans (h : Kp S w w') (k : Kp S w' w'') : Kp S w w'' :=
  ⟨k.os.trans h.os, k.tape.trans h.tape, k.output.trans h.output, Nat.le_trans h.size k.size, fun b hb hn => (k.block b (Nat.lt_of_lt_of_le hb h.size) hn).trans (h.block b hb hn)⟩
theorem Kp.gb {row : Option Nat} (h : w.grownBy w' row) (hs : ∀ r, row = some r → S r) : Kp S w w' :=
  ⟨h.os, h.tape, h.output, h.size, fun b hb hn => h.block b hb (fun e => hn (hs b e.symm))⟩
theorem Kp.bel (h : Below w.heap.size w w') : Kp S w w' := ⟨h.os, h.tape, h.output, h.size, fun b hb _ => h.block b hb⟩
theorem Kp.below {B : Nat} (h : Kp S w w') (hB : B ≤ w.heap.size) (hs : ∀ b, S b → B ≤ b) : Below B w w' :=
  ⟨h.os, h.tape, h.output, h.size, fun b hb => h.block b (by omega) (fun hh => by have := hs b hh; omega)⟩
theorem Kp.mono {S' : Nat → Prop} (h : Kp S w w') (hs : ∀ b, b < w.heap.size → S b → S' b) : Kp S' w w' := ⟨h.os, h.tape, h.output, h.size, fun b hb hn => h.block b hb (fun hh => hn (hs b hb hh))⟩
theorem Kp.blk {g : Nat} {t : TypeId} {cs : List Value} (h : Kp S w w') (hb : Blk w g t cs) (hn : ¬ S g) : Blk w' g t cs := hb.kept (h.block g hb.lt hn)
theorem Kp.own {B n sz : Nat} {e : TypeId} {v : Value} {xs : List Value} (h : Kp S w w') (ho : w.ownsRow B e sz v n xs) (hn : ∀ r, v.ownBlock = some r → ¬ S r) : w'.ownsRow B e sz v n xs := by
  cases hv : v.ownBlock with
  | none =>
    refine ⟨ho.1, ?_⟩
    rcases ho.2 with h0 | ⟨q, cap, cur, hq, _⟩
    · exact Or.inl h0
    · rw [hq] at hv; cases hv
  | some r =>
    refine ⟨ho.1, ?_⟩
    rcases ho.2 with h0 | ⟨q, cap, cur, hq, hb, hg, h3⟩
    · exact Or.inl h0
    · refine Or.inr ⟨q, cap, cur, hq, hb, ?_, h3⟩
      have hlt := (Array.getElem?_eq_some_iff.1 hg).1
      rw [h.block q hlt (hn q (by rw [hq]; rfl))]
      exact hg
end
/-- the four rows of a run that is being written, and what stays -/
structure SpR (w0 : World) (B : Nat) (S : Nat → Prop) (C : List Cal) (T : List Ac) (F : List Sf) (U : List Int) (vc vt vs vu : Value) (V : World) : Prop where
  oc : V.ownsRow B 62 9 vc C.length (calVals C)
  ot : V.ownsRow B 66 7 vt T.length (acVals T)
  os : V.ownsRow B 94 5 vs F.length (sfVals F)
  ou : V.ownsRow B 34 1 vu U.length (u64s U)
  sc : ∀ r, vc.ownBlock = some r → S r
  st : ∀ r, vt.ownBlock = some r → S r
  ss : ∀ r, vs.ownBlock = some r → S r
  su : ∀ r, vu.ownBlock = some r → S r
  kp : Kp S w0 V
section
variable {w0 V V' : World} {B : Nat} {S : Nat → Prop} {C C' : List Cal} {T T' : List Ac} {F F' : List Sf} {U U' : List Int} {vc vt vs vu v' : Value}
theorem SpR.alloc (h : SpR w0 B S C T F U vc vt vs vu V) (o : Obj) : SpR w0 B S C T F U vc vt vs vu (V.alloc o) :=
  ⟨h.oc.alloc o, h.ot.alloc o, h.os.alloc o, h.ou.alloc o, h.sc, h.st, h.ss, h.su, h.kp.trans (Kp.gb (row := none) (World.grownBy_alloc V o none) (fun _ e => by cases e))⟩
theorem SpR.box (h : SpR w0 B S C T F U vc vt vs vu V) {g : Nat} {cs : List Value} (hb : Blk V g 39 cs) (hs : S g) (i : Nat) (u : Value) : SpR w0 B S C T F U vc vt vs vu (V.setCell ⟨g, i, none⟩ u) :=
  ⟨own_setf h.oc (own_blk_ne h.oc hb (by decide)) _, own_setf h.ot (own_blk_ne h.ot hb (by decide)) _, own_setf h.os (own_blk_ne h.os hb (by decide)) _, own_setf h.ou (own_blk_ne h.ou hb (by decide)) _, h.sc, h.st, h.ss, h.su,
   h.kp.trans (Kp.gb (gb_set V g i u) (fun r e => by injection e with e; rw [← e]; exact hs))⟩
theorem SpR.step_c (h : SpR w0 B S C T F U vc vt vs vu V) (hg : V.grownBy V' vc.ownBlock) (ho : V'.ownsRow B 62 9 v' C'.length (calVals C')) (hs : ∀ r, v'.ownBlock = some r → S r) : SpR w0 B S C' T F U v' vt vs vu V' :=
  ⟨ho, h.ot.kept hg (own_own_ne h.ot h.oc (by decide)), h.os.kept hg (own_own_ne h.os h.oc (by decide)), h.ou.kept hg (own_own_ne h.ou h.oc (by decide)), hs, h.st, h.ss, h.su, h.kp.trans (Kp.gb hg h.sc)⟩
theorem SpR.step_t (h : SpR w0 B S C T F U vc vt vs vu V) (hg : V.grownBy V' vt.ownBlock) (ho : V'.ownsRow B 66 7 v' T'.length (acVals T')) (hs : ∀ r, v'.ownBlock = some r → S r) : SpR w0 B S C T' F U vc v' vs vu V' :=
  ⟨h.oc.kept hg (own_own_ne h.oc h.ot (by decide)), ho, h.os.kept hg (own_own_ne h.os h.ot (by decide)), h.ou.kept hg (own_own_ne h.ou h.ot (by decide)), h.sc, hs, h.ss, h.su, h.kp.trans (Kp.gb hg h.st)⟩
theorem SpR.step_s (h : SpR w0 B S C T F U vc vt vs vu V) (hg : V.grownBy V' vs.ownBlock) (ho : V'.ownsRow B 94 5 v' F'.length (sfVals F')) (hs : ∀ r, v'.ownBlock = some r → S r) : SpR w0 B S C T F' U vc vt v' vu V' :=
  ⟨h.oc.kept hg (own_own_ne h.oc h.os (by decide)), h.ot.kept hg (own_own_ne h.ot h.os (by decide)), ho, h.ou.kept hg (own_own_ne h.ou h.os (by decide)), h.sc, h.st, hs, h.su, h.kp.trans (Kp.gb hg h.ss)⟩
theorem SpR.step_u (h : SpR w0 B S C T F U vc vt vs vu V) (hg : V.grownBy V' vu.ownBlock) (ho : V'.ownsRow B 34 1 v' U'.length (u64s U')) (hs : ∀ r, v'.ownBlock = some r → S r) : SpR w0 B S C T F U' vc vt vs v' V' :=
  ⟨h.oc.kept hg (own_own_ne h.oc h.ou (by decide)), h.ot.kept hg (own_own_ne h.ot h.ou (by decide)), h.os.kept hg (own_own_ne h.os h.ou (by decide)), ho, h.sc, h.st, h.ss, hs, h.kp.trans (Kp.gb hg h.su)⟩
end
/-- where the four rows of a run lie, or what is new -/
def Sp4 (N : Nat) (v0 v1 v2 v3 : Value) (b : Nat) : Prop := N ≤ b ∨ v0.ownBlock = some b ∨ v1.ownBlock = some b ∨ v2.ownBlock = some b ∨ v3.ownBlock = some b
def SpoR (M : Int) (B n0 n1 n2 n3 : Nat) (v0 v1 v2 v3 : Value) (w : World) (e : Ending) (w' : World) : Prop := ∃ (a0 a1 a2 a3 : Option Addr) (k0 k1 k2 k3 : Nat), e = .returned (.agg #[.slice a0 (n0 + 70) k0, .slice a1 (n1 + 70) k1, .slice a2 (n2 + 70) k2, .slice a3 (n3 + 70) k3]) ∧
  SpR w B (Sp4 w.heap.size v0 v1 v2 v3) (sp_c M n0) (sp_t M n1) (sp_s M n2) (sp_u M n3) (.slice a0 (n0 + 70) k0) (.slice a1 (n1 + 70) k1) (.slice a2 (n2 + 70) k2) (.slice a3 (n3 + 70) k3) w'
set_option maxRecDepth 100000 in
set_option maxHeartbeats 8000000 in
theorem spoil_any (M : Int) (hM : 0 < M ∧ M ≤ 2000) (calls : List Cal) (tr : List Ac) (sh : List Sf) (words : List Int) (Ac At As Aw : Option Addr) (kc kt ks kw : Nat) (w : World) (B : Nat) (hB : B ≤ w.heap.size)
    (hn : calls.length ≤ 100000 ∧ tr.length ≤ 100000 ∧ sh.length ≤ 100000 ∧ words.length ≤ 100000)
    (hc : w.ownsRow B 62 9 (.slice Ac calls.length kc) calls.length (calVals calls)) (ht : w.ownsRow B 66 7 (.slice At tr.length kt) tr.length (acVals tr)) (hs : w.ownsRow B 94 5 (.slice As sh.length ks) sh.length (sfVals sh)) (hw : w.ownsRow B 34 1 (.slice Aw words.length kw) words.length (u64s words)) :
    Calls Try.prog 25 #[.agg #[.slice Ac calls.length kc, .slice At tr.length kt, .slice As sh.length ks, .slice Aw words.length kw], .int .i64 M] w (SpoR M B calls.length tr.length sh.length words.length (.slice Ac calls.length kc) (.slice At tr.length kt) (.slice As sh.length ks) (.slice Aw words.length kw) w) := by
  obtain ⟨i1, hi1, hi1z, hi1s, hi1b⟩ := info_parts info_cac
  obtain ⟨i2, hi2, hi2z, hi2s, hi2b⟩ := info_parts info_caa
  obtain ⟨i3, hi3, hi3z, hi3s, hi3b⟩ := info_parts info_csh
  obtain ⟨i4, hi4, hi4z, hi4s, hi4b⟩ := info_parts info_wz
  obtain ⟨n0, n1, n2, n3⟩ := hn
  obtain ⟨m0, m1⟩ := hM
  obtain ⟨S, hS⟩ : ∃ S, S = Sp4 w.heap.size (.slice Ac calls.length kc) (.slice At tr.length kt) (.slice As sh.length ks) (.slice Aw words.length kw) := ⟨_, rfl⟩
  have HSn : Hid (∀ b, w.heap.size ≤ b → S b) := Lib.hid fun b hb => by rw [hS]; exact Or.inl hb
  have HP0 : Hid (SpR w B S calls tr sh words (.slice Ac calls.length kc) (.slice At tr.length kt) (.slice As sh.length ks) (.slice Aw words.length kw) w) := Lib.hid ⟨hc, ht, hs, hw, fun r h => by rw [hS]; exact Or.inr (Or.inl h), fun r h => by rw [hS]; exact Or.inr (Or.inr (Or.inl h)), fun r h => by rw [hS]; exact Or.inr (Or.inr (Or.inr (Or.inl h))), fun r h => by rw [hS]; exact Or.inr (Or.inr (Or.inr (Or.inr h))), Kp.refl⟩
  have HGoal : Hid (SpoR M B calls.length tr.length sh.length words.length (.slice Ac calls.length kc) (.slice At tr.length kt) (.slice As sh.length ks) (.slice Aw words.length kw) w = fun e w' => ∃ (a0 a1 a2 a3 : Option Addr) (k0 k1 k2 k3 : Nat), e = .returned (.agg #[.slice a0 (calls.length + 70) k0, .slice a1 (tr.length + 70) k1, .slice a2 (sh.length + 70) k2, .slice a3 (words.length + 70) k3]) ∧
      SpR w B S (sp_c M calls.length) (sp_t M tr.length) (sp_s M sh.length) (sp_u M words.length) (.slice a0 (calls.length + 70) k0) (.slice a1 (tr.length + 70) k1) (.slice a2 (sh.length + 70) k2) (.slice a3 (words.length + 70) k3) w') := by show _ = _; rw [hS]; rfl
  clear hc ht hs hw hS
  go_enter Try.func25, Try.ntmps25
  go_upto_region 1 with fail
  have hp0 : SpR w B S calls tr sh words (.slice Ac calls.length kc) (.slice At tr.length kt) (.slice As sh.length ks) (.slice Aw words.length kw) ((w.alloc (.cells #[.slice Ac calls.length kc, .slice At tr.length kt, .slice As sh.length ks, .slice Aw words.length kw] 39)).alloc (.cells #[.slice none 0 0, .slice none 0 0, .slice none 0 0, .slice none 0 0] 39)) := (HP0.out.alloc _).alloc _
  have hr0 : Blk ((w.alloc (.cells #[.slice Ac calls.length kc, .slice At tr.length kt, .slice As sh.length ks, .slice Aw words.length kw] 39)).alloc (.cells #[.slice none 0 0, .slice none 0 0, .slice none 0 0, .slice none 0 0] 39)) w.heap.size 39 [.slice Ac calls.length kc, .slice At tr.length kt, .slice As sh.length ks, .slice Aw words.length kw] := (Blk.new w _ _).alloc _
  have hq0 : Blk ((w.alloc (.cells #[.slice Ac calls.length kc, .slice At tr.length kt, .slice As sh.length ks, .slice Aw words.length kw] 39)).alloc (.cells #[.slice none 0 0, .slice none 0 0, .slice none 0 0, .slice none 0 0] 39)) (w.heap.size + 1) 39 [.slice none 0 0, .slice none 0 0, .slice none 0 0, .slice none 0 0] := new1_blk' _ _ _ _
  generalize (w.alloc (.cells #[.slice Ac calls.length kc, .slice At tr.length kt, .slice As sh.length ks, .slice Aw words.length kw] 39)).alloc (.cells #[.slice none 0 0, .slice none 0 0, .slice none 0 0, .slice none 0 0] 39) = V0 at hp0 hr0 hq0 ⊢
  have HP := Lib.hid hp0
  have HX := Lib.hid hr0
  have HY := Lib.hid hq0
  clear hp0 hr0 hq0 HP0
  have x0 : V0.cell? ⟨w.heap.size, 0, none⟩ = some (.slice Ac calls.length kc) := HX.out.cell rfl
  have x1 : V0.cell? ⟨w.heap.size, 1, none⟩ = some (.slice At tr.length kt) := HX.out.cell rfl
  have x2 : V0.cell? ⟨w.heap.size, 2, none⟩ = some (.slice As sh.length ks) := HX.out.cell rfl
  have x3 : V0.cell? ⟨w.heap.size, 3, none⟩ = some (.slice Aw words.length kw) := HX.out.cell rfl

  go_wp2_with fail
  go_loopg [5] calls.length (fun gk i wr => ∃ j : Nat, j + gk = calls.length ∧ i = .int .i64 j ∧ Hid (SpR w B S (mk_c M j ++ calls.drop j) tr sh words (.slice Ac calls.length kc) (.slice At tr.length kt) (.slice As sh.length ks) (.slice Aw words.length kw) wr) ∧ Hid (Blk wr w.heap.size 39 [.slice Ac calls.length kc, .slice At tr.length kt, .slice As sh.length ks, .slice Aw words.length kw]) ∧ Hid (Blk wr (w.heap.size + 1) 39 [.slice none 0 0, .slice none 0 0, .slice none 0 0, .slice none 0 0]))
  case atStart => exact ⟨0, by omega, rfl, by show SpR _ _ _ _ _ _ _ _ _ _ _ _; rw [mk_c, List.drop_zero]; exact HP.out, HX, HY⟩
  case round =>
    obtain ⟨j, hj, rfl, HPj, HXj, HYj⟩ := hrel
    have x0 : wr.cell? ⟨w.heap.size, 0, none⟩ = some (.slice Ac calls.length kc) := HXj.out.cell rfl
    have x1 : wr.cell? ⟨w.heap.size, 1, none⟩ = some (.slice At tr.length kt) := HXj.out.cell rfl
    have x2 : wr.cell? ⟨w.heap.size, 2, none⟩ = some (.slice As sh.length ks) := HXj.out.cell rfl
    have x3 : wr.cell? ⟨w.heap.size, 3, none⟩ = some (.slice Aw words.length kw) := HXj.out.cell rfl

    have hxl := HXj.out.lt
    by_cases hlt : j < calls.length
    · have e1 : (j : Int) < calls.length := by omega
      have e0 : (0 : Int) ≤ j := by omega
      have q6 : IntKind.i64.wrap (M + j) = M + j := IntWalk.i64_in _ (by omega)
      have q7 : IntKind.i64.wrap (-M) = -M := IntWalk.i64_in _ (by omega)

      have hlen : (mk_c M j ++ calls.drop j).length = calls.length := by rw [List.length_append, mk_c_len, List.length_drop]; omega
      have ho := HPj.out.oc
      rw [hlen] at ho
      obtain ⟨g, hA, hBg, hR⟩ := Rw.of_own ho (by omega)
      obtain ⟨x, hxj⟩ : ∃ x, (mk_c M j ++ calls.drop j)[j]? = some x := at_lt (by omega)
      subst hA
      have t0 : wr.cell? ⟨g, j * 9, none⟩ = some (.int .i64 x.th) := hR.cell (calVals_get hxj 0 (by omega))
      have f0 := hR.frozen (j * 9)
      have t1 : wr.cell? ⟨g, j * 9 + 1, none⟩ = some (.int .i64 x.op) := hR.cell (calVals_get hxj 1 (by omega))
      have f1 := hR.frozen (j * 9 + 1)
      have t2 : wr.cell? ⟨g, j * 9 + 2, none⟩ = some (.int .i64 x.arg) := hR.cell (calVals_get hxj 2 (by omega))
      have f2 := hR.frozen (j * 9 + 2)
      have t3 : wr.cell? ⟨g, j * 9 + 3, none⟩ = some (.int .i64 x.dat) := hR.cell (calVals_get hxj 3 (by omega))
      have f3 := hR.frozen (j * 9 + 3)
      have t4 : wr.cell? ⟨g, j * 9 + 4, none⟩ = some (.int .i64 x.beg) := hR.cell (calVals_get hxj 4 (by omega))
      have f4 := hR.frozen (j * 9 + 4)
      have t5 : wr.cell? ⟨g, j * 9 + 5, none⟩ = some (.int .i64 x.fin) := hR.cell (calVals_get hxj 5 (by omega))
      have f5 := hR.frozen (j * 9 + 5)
      have t6 : wr.cell? ⟨g, j * 9 + 6, none⟩ = some (.int .i64 x.pt) := hR.cell (calVals_get hxj 6 (by omega))
      have f6 := hR.frozen (j * 9 + 6)
      have t7 : wr.cell? ⟨g, j * 9 + 7, none⟩ = some (.int .i64 x.ak) := hR.cell (calVals_get hxj 7 (by omega))
      have f7 := hR.frozen (j * 9 + 7)
      have t8 : wr.cell? ⟨g, j * 9 + 8, none⟩ = some (.int .i64 x.av) := hR.cell (calVals_get hxj 8 (by omega))
      have f8 := hR.frozen (j * 9 + 8)

      have hgl := hR.lt
      have HR := Lib.hid hR
      have hgx : g ≠ w.heap.size := fun e => by
        have h9 := own_blk_ne ho HXj.out (by decide)
        rw [← e] at h9
        exact h9 rfl
      have hgy : g ≠ w.heap.size + 1 := fun e => by
        have h9 := own_blk_ne ho HYj.out (by decide)
        rw [← e] at h9
        exact h9 rfl
      have HE : Hid (∀ W, W = ((((((((wr.setCell ⟨g, j * 9, none⟩ (.int .i64 (M + j))).setCell ⟨g, j * 9 + 1, none⟩ (.int .i64 (0))).setCell ⟨g, j * 9 + 2, none⟩ (.int .i64 (-M))).setCell ⟨g, j * 9 + 3, none⟩ (.int .i64 (0))).setCell ⟨g, j * 9 + 4, none⟩ (.int .i64 (0))).setCell ⟨g, j * 9 + 5, none⟩ (.int .i64 (0))).setCell ⟨g, j * 9 + 6, none⟩ (.int .i64 (0))).setCell ⟨g, j * 9 + 7, none⟩ (.int .i64 (0))).setCell ⟨g, j * 9 + 8, none⟩ (.int .i64 (0)) → SpR w B S (mk_c M (j + 1) ++ calls.drop (j + 1)) tr sh words (.slice (some ⟨g, 0, none⟩) calls.length kc) (.slice At tr.length kt) (.slice As sh.length ks) (.slice Aw words.length kw) W ∧ Blk W w.heap.size 39 [.slice (some ⟨g, 0, none⟩) calls.length kc, .slice At tr.length kt, .slice As sh.length ks, .slice Aw words.length kw] ∧ Blk W (w.heap.size + 1) 39 [.slice none 0 0, .slice none 0 0, .slice none 0 0, .slice none 0 0]) := Lib.hid fun W e => by
        have hg9 : wr.grownBy W (some g) := by rw [e]; exact ((((((((gb_set _ _ _ _).trans (gb_set _ _ _ _)).trans (gb_set _ _ _ _)).trans (gb_set _ _ _ _)).trans (gb_set _ _ _ _)).trans (gb_set _ _ _ _)).trans (gb_set _ _ _ _)).trans (gb_set _ _ _ _)).trans (gb_set _ _ _ _)
        have h9 := ((((((((hR.set_ (j * 9) (.int .i64 (M + j))).set_ (j * 9 + 1) (.int .i64 (0))).set_ (j * 9 + 2) (.int .i64 (-M))).set_ (j * 9 + 3) (.int .i64 (0))).set_ (j * 9 + 4) (.int .i64 (0))).set_ (j * 9 + 5) (.int .i64 (0))).set_ (j * 9 + 6) (.int .i64 (0))).set_ (j * 9 + 7) (.int .i64 (0))).set_ (j * 9 + 8) (.int .i64 (0))
        rw [calVals_set9 (by rw [hlen]; exact hlt) ⟨M + j, 0, -M, 0, 0, 0, 0, 0, 0⟩, mk_c_next hlt, ← e] at h9
        have hl2 : (mk_c M (j + 1) ++ calls.drop (j + 1)).length = calls.length := by rw [List.length_append, mk_c_len, List.length_drop]; omega
        refine ⟨HPj.out.step_c hg9 (by rw [hl2]; exact h9.own hBg) (HPj.out.sc), HXj.out.grown hg9 (fun e => hgx (by injection e with e; exact e.symm)), HYj.out.grown hg9 (fun e => hgy (by injection e with e; exact e.symm))⟩
      clear hR hxj ho
      go_wp2_with fail
      go_roundg (gk - 1)
      case measure => omega
      case rel =>
        obtain ⟨h1, h2, h3⟩ := HE.out _ rfl
        exact ⟨j + 1, by omega, by go_num, h1, h2, h3⟩
    · obtain rfl : j = calls.length := by omega
      have HP : Hid (SpR w B S (mk_c M calls.length) tr sh words (.slice Ac calls.length kc) (.slice At tr.length kt) (.slice As sh.length ks) (.slice Aw words.length kw) wr) := by
        show SpR _ _ _ _ _ _ _ _ _ _ _ _
        have h9 := HPj.out
        rw [List.drop_length, List.append_nil] at h9
        exact h9
      have HX := HXj
      have HY := HYj
      clear HPj HXj HYj x0 x1 x2 x3 hlt
      obtain ⟨V1, rfl⟩ : ∃ V1 : World, V1 = wr := ⟨_, rfl⟩
      have x0 : V1.cell? ⟨w.heap.size, 0, none⟩ = some (.slice Ac calls.length kc) := HX.out.cell rfl
      have x1 : V1.cell? ⟨w.heap.size, 1, none⟩ = some (.slice At tr.length kt) := HX.out.cell rfl
      have x2 : V1.cell? ⟨w.heap.size, 2, none⟩ = some (.slice As sh.length ks) := HX.out.cell rfl
      have x3 : V1.cell? ⟨w.heap.size, 3, none⟩ = some (.slice Aw words.length kw) := HX.out.cell rfl
      go_wp2_with fail
      go_loopg [6] tr.length (fun gk i wr => ∃ j : Nat, j + gk = tr.length ∧ i = .int .i64 j ∧ Hid (SpR w B S (mk_c M calls.length) (mk_t M j ++ tr.drop j) sh words (.slice Ac calls.length kc) (.slice At tr.length kt) (.slice As sh.length ks) (.slice Aw words.length kw) wr) ∧ Hid (Blk wr w.heap.size 39 [.slice Ac calls.length kc, .slice At tr.length kt, .slice As sh.length ks, .slice Aw words.length kw]) ∧ Hid (Blk wr (w.heap.size + 1) 39 [.slice none 0 0, .slice none 0 0, .slice none 0 0, .slice none 0 0]))
      case atStart => exact ⟨0, by omega, rfl, by show SpR _ _ _ _ _ _ _ _ _ _ _ _; rw [mk_t, List.drop_zero]; exact HP.out, HX, HY⟩
      case round =>
        obtain ⟨j, hj, rfl, HPj, HXj, HYj⟩ := hrel
        have x0 : wr.cell? ⟨w.heap.size, 0, none⟩ = some (.slice Ac calls.length kc) := HXj.out.cell rfl
        have x1 : wr.cell? ⟨w.heap.size, 1, none⟩ = some (.slice At tr.length kt) := HXj.out.cell rfl
        have x2 : wr.cell? ⟨w.heap.size, 2, none⟩ = some (.slice As sh.length ks) := HXj.out.cell rfl
        have x3 : wr.cell? ⟨w.heap.size, 3, none⟩ = some (.slice Aw words.length kw) := HXj.out.cell rfl

        have hxl := HXj.out.lt
        by_cases hlt : j < tr.length
        · have e1 : (j : Int) < tr.length := by omega
          have e0 : (0 : Int) ≤ j := by omega
          have q6 : IntKind.i64.wrap (M + j) = M + j := IntWalk.i64_in _ (by omega)
          have q7 : IntKind.i64.wrap (-M) = -M := IntWalk.i64_in _ (by omega)

          have hlen : (mk_t M j ++ tr.drop j).length = tr.length := by rw [List.length_append, mk_t_len, List.length_drop]; omega
          have ho := HPj.out.ot
          rw [hlen] at ho
          obtain ⟨g, hA, hBg, hR⟩ := Rw.of_own ho (by omega)
          obtain ⟨x, hxj⟩ : ∃ x, (mk_t M j ++ tr.drop j)[j]? = some x := at_lt (by omega)
          subst hA
          have t0 : wr.cell? ⟨g, j * 7, none⟩ = some (.int .i64 x.mv) := hR.cell (acVals_get' hxj 0 (by omega))
          have f0 := hR.frozen (j * 7)
          have t1 : wr.cell? ⟨g, j * 7 + 1, none⟩ = some (.int .i64 x.th) := hR.cell (acVals_get' hxj 1 (by omega))
          have f1 := hR.frozen (j * 7 + 1)
          have t2 : wr.cell? ⟨g, j * 7 + 2, none⟩ = some (.int .i64 x.kd) := hR.cell (acVals_get' hxj 2 (by omega))
          have f2 := hR.frozen (j * 7 + 2)
          have t3 : wr.cell? ⟨g, j * 7 + 3, none⟩ = some (.int .i64 x.ad) := hR.cell (acVals_get' hxj 3 (by omega))
          have f3 := hR.frozen (j * 7 + 3)
          have t4 : wr.cell? ⟨g, j * 7 + 4, none⟩ = some (.int .u64 x.old) := hR.cell (acVals_get' hxj 4 (by omega))
          have f4 := hR.frozen (j * 7 + 4)
          have t5 : wr.cell? ⟨g, j * 7 + 5, none⟩ = some (.int .u64 x.new) := hR.cell (acVals_get' hxj 5 (by omega))
          have f5 := hR.frozen (j * 7 + 5)
          have t6 : wr.cell? ⟨g, j * 7 + 6, none⟩ = some (.int .u64 x.saw) := hR.cell (acVals_get' hxj 6 (by omega))
          have f6 := hR.frozen (j * 7 + 6)

          have hgl := hR.lt
          have HR := Lib.hid hR
          have hgx : g ≠ w.heap.size := fun e => by
            have h9 := own_blk_ne ho HXj.out (by decide)
            rw [← e] at h9
            exact h9 rfl
          have hgy : g ≠ w.heap.size + 1 := fun e => by
            have h9 := own_blk_ne ho HYj.out (by decide)
            rw [← e] at h9
            exact h9 rfl
          have HE : Hid (∀ W, W = ((((((wr.setCell ⟨g, j * 7, none⟩ (.int .i64 (M + j))).setCell ⟨g, j * 7 + 1, none⟩ (.int .i64 (0))).setCell ⟨g, j * 7 + 2, none⟩ (.int .i64 (0))).setCell ⟨g, j * 7 + 3, none⟩ (.int .i64 (-M))).setCell ⟨g, j * 7 + 4, none⟩ (.int .u64 (0))).setCell ⟨g, j * 7 + 5, none⟩ (.int .u64 (0))).setCell ⟨g, j * 7 + 6, none⟩ (.int .u64 (0)) → SpR w B S (mk_c M calls.length) (mk_t M (j + 1) ++ tr.drop (j + 1)) sh words (.slice Ac calls.length kc) (.slice (some ⟨g, 0, none⟩) tr.length kt) (.slice As sh.length ks) (.slice Aw words.length kw) W ∧ Blk W w.heap.size 39 [.slice Ac calls.length kc, .slice (some ⟨g, 0, none⟩) tr.length kt, .slice As sh.length ks, .slice Aw words.length kw] ∧ Blk W (w.heap.size + 1) 39 [.slice none 0 0, .slice none 0 0, .slice none 0 0, .slice none 0 0]) := Lib.hid fun W e => by
            have hg9 : wr.grownBy W (some g) := by rw [e]; exact ((((((gb_set _ _ _ _).trans (gb_set _ _ _ _)).trans (gb_set _ _ _ _)).trans (gb_set _ _ _ _)).trans (gb_set _ _ _ _)).trans (gb_set _ _ _ _)).trans (gb_set _ _ _ _)
            have h9 := ((((((hR.set_ (j * 7) (.int .i64 (M + j))).set_ (j * 7 + 1) (.int .i64 (0))).set_ (j * 7 + 2) (.int .i64 (0))).set_ (j * 7 + 3) (.int .i64 (-M))).set_ (j * 7 + 4) (.int .u64 (0))).set_ (j * 7 + 5) (.int .u64 (0))).set_ (j * 7 + 6) (.int .u64 (0))
            rw [acVals_set7 (by rw [hlen]; exact hlt) ⟨M + j, 0, 0, -M, 0, 0, 0⟩, mk_t_next hlt, ← e] at h9
            have hl2 : (mk_t M (j + 1) ++ tr.drop (j + 1)).length = tr.length := by rw [List.length_append, mk_t_len, List.length_drop]; omega
            refine ⟨HPj.out.step_t hg9 (by rw [hl2]; exact h9.own hBg) (HPj.out.st), HXj.out.grown hg9 (fun e => hgx (by injection e with e; exact e.symm)), HYj.out.grown hg9 (fun e => hgy (by injection e with e; exact e.symm))⟩
          clear hR hxj ho
          go_wp2_with fail
          go_roundg (gk - 1)
          case measure => omega
          case rel =>
            obtain ⟨h1, h2, h3⟩ := HE.out _ rfl
            exact ⟨j + 1, by omega, by go_num, h1, h2, h3⟩
        · obtain rfl : j = tr.length := by omega
          have HP : Hid (SpR w B S (mk_c M calls.length) (mk_t M tr.length) sh words (.slice Ac calls.length kc) (.slice At tr.length kt) (.slice As sh.length ks) (.slice Aw words.length kw) wr) := by
            show SpR _ _ _ _ _ _ _ _ _ _ _ _
            have h9 := HPj.out
            rw [List.drop_length, List.append_nil] at h9
            exact h9
          have HX := HXj
          have HY := HYj
          clear HPj HXj HYj x0 x1 x2 x3 hlt
          obtain ⟨V2, rfl⟩ : ∃ V2 : World, V2 = wr := ⟨_, rfl⟩
          have x0 : V2.cell? ⟨w.heap.size, 0, none⟩ = some (.slice Ac calls.length kc) := HX.out.cell rfl
          have x1 : V2.cell? ⟨w.heap.size, 1, none⟩ = some (.slice At tr.length kt) := HX.out.cell rfl
          have x2 : V2.cell? ⟨w.heap.size, 2, none⟩ = some (.slice As sh.length ks) := HX.out.cell rfl
          have x3 : V2.cell? ⟨w.heap.size, 3, none⟩ = some (.slice Aw words.length kw) := HX.out.cell rfl
          go_wp2_with fail
          go_loopg [7] sh.length (fun gk i wr => ∃ j : Nat, j + gk = sh.length ∧ i = .int .i64 j ∧ Hid (SpR w B S (mk_c M calls.length) (mk_t M tr.length) (mk_s M j ++ sh.drop j) words (.slice Ac calls.length kc) (.slice At tr.length kt) (.slice As sh.length ks) (.slice Aw words.length kw) wr) ∧ Hid (Blk wr w.heap.size 39 [.slice Ac calls.length kc, .slice At tr.length kt, .slice As sh.length ks, .slice Aw words.length kw]) ∧ Hid (Blk wr (w.heap.size + 1) 39 [.slice none 0 0, .slice none 0 0, .slice none 0 0, .slice none 0 0]))
          case atStart => exact ⟨0, by omega, rfl, by show SpR _ _ _ _ _ _ _ _ _ _ _ _; rw [mk_s, List.drop_zero]; exact HP.out, HX, HY⟩
          case round =>
            obtain ⟨j, hj, rfl, HPj, HXj, HYj⟩ := hrel
            have x0 : wr.cell? ⟨w.heap.size, 0, none⟩ = some (.slice Ac calls.length kc) := HXj.out.cell rfl
            have x1 : wr.cell? ⟨w.heap.size, 1, none⟩ = some (.slice At tr.length kt) := HXj.out.cell rfl
            have x2 : wr.cell? ⟨w.heap.size, 2, none⟩ = some (.slice As sh.length ks) := HXj.out.cell rfl
            have x3 : wr.cell? ⟨w.heap.size, 3, none⟩ = some (.slice Aw words.length kw) := HXj.out.cell rfl

            have hxl := HXj.out.lt
            by_cases hlt : j < sh.length
            · have e1 : (j : Int) < sh.length := by omega
              have e0 : (0 : Int) ≤ j := by omega
              have q6 : IntKind.i64.wrap (M + j) = M + j := IntWalk.i64_in _ (by omega)
              have q7 : IntKind.i64.wrap (-M) = -M := IntWalk.i64_in _ (by omega)

              have hlen : (mk_s M j ++ sh.drop j).length = sh.length := by rw [List.length_append, mk_s_len, List.length_drop]; omega
              have ho := HPj.out.os
              rw [hlen] at ho
              obtain ⟨g, hA, hBg, hR⟩ := Rw.of_own ho (by omega)
              obtain ⟨x, hxj⟩ : ∃ x, (mk_s M j ++ sh.drop j)[j]? = some x := at_lt (by omega)
              subst hA
              have t0 : wr.cell? ⟨g, j * 5, none⟩ = some (.int .i64 x.mv) := hR.cell (sfVals_get hxj 0 (by omega))
              have f0 := hR.frozen (j * 5)
              have t1 : wr.cell? ⟨g, j * 5 + 1, none⟩ = some (.int .i64 x.th) := hR.cell (sfVals_get hxj 1 (by omega))
              have f1 := hR.frozen (j * 5 + 1)
              have t2 : wr.cell? ⟨g, j * 5 + 2, none⟩ = some (.int .i64 x.sl) := hR.cell (sfVals_get hxj 2 (by omega))
              have f2 := hR.frozen (j * 5 + 2)
              have t3 : wr.cell? ⟨g, j * 5 + 3, none⟩ = some (.int .i64 x.fr) := hR.cell (sfVals_get hxj 3 (by omega))
              have f3 := hR.frozen (j * 5 + 3)
              have t4 : wr.cell? ⟨g, j * 5 + 4, none⟩ = some (.int .i64 x.tt) := hR.cell (sfVals_get hxj 4 (by omega))
              have f4 := hR.frozen (j * 5 + 4)

              have hgl := hR.lt
              have HR := Lib.hid hR
              have hgx : g ≠ w.heap.size := fun e => by
                have h9 := own_blk_ne ho HXj.out (by decide)
                rw [← e] at h9
                exact h9 rfl
              have hgy : g ≠ w.heap.size + 1 := fun e => by
                have h9 := own_blk_ne ho HYj.out (by decide)
                rw [← e] at h9
                exact h9 rfl
              have HE : Hid (∀ W, W = ((((wr.setCell ⟨g, j * 5, none⟩ (.int .i64 (M + j))).setCell ⟨g, j * 5 + 1, none⟩ (.int .i64 (0))).setCell ⟨g, j * 5 + 2, none⟩ (.int .i64 (-M))).setCell ⟨g, j * 5 + 3, none⟩ (.int .i64 (0))).setCell ⟨g, j * 5 + 4, none⟩ (.int .i64 (0)) → SpR w B S (mk_c M calls.length) (mk_t M tr.length) (mk_s M (j + 1) ++ sh.drop (j + 1)) words (.slice Ac calls.length kc) (.slice At tr.length kt) (.slice (some ⟨g, 0, none⟩) sh.length ks) (.slice Aw words.length kw) W ∧ Blk W w.heap.size 39 [.slice Ac calls.length kc, .slice At tr.length kt, .slice (some ⟨g, 0, none⟩) sh.length ks, .slice Aw words.length kw] ∧ Blk W (w.heap.size + 1) 39 [.slice none 0 0, .slice none 0 0, .slice none 0 0, .slice none 0 0]) := Lib.hid fun W e => by
                have hg9 : wr.grownBy W (some g) := by rw [e]; exact ((((gb_set _ _ _ _).trans (gb_set _ _ _ _)).trans (gb_set _ _ _ _)).trans (gb_set _ _ _ _)).trans (gb_set _ _ _ _)
                have h9 := ((((hR.set_ (j * 5) (.int .i64 (M + j))).set_ (j * 5 + 1) (.int .i64 (0))).set_ (j * 5 + 2) (.int .i64 (-M))).set_ (j * 5 + 3) (.int .i64 (0))).set_ (j * 5 + 4) (.int .i64 (0))
                rw [sfVals_set5 (by rw [hlen]; exact hlt) ⟨M + j, 0, -M, 0, 0⟩, mk_s_next hlt, ← e] at h9
                have hl2 : (mk_s M (j + 1) ++ sh.drop (j + 1)).length = sh.length := by rw [List.length_append, mk_s_len, List.length_drop]; omega
                refine ⟨HPj.out.step_s hg9 (by rw [hl2]; exact h9.own hBg) (HPj.out.ss), HXj.out.grown hg9 (fun e => hgx (by injection e with e; exact e.symm)), HYj.out.grown hg9 (fun e => hgy (by injection e with e; exact e.symm))⟩
              clear hR hxj ho
              go_wp2_with fail
              go_roundg (gk - 1)
              case measure => omega
              case rel =>
                obtain ⟨h1, h2, h3⟩ := HE.out _ rfl
                exact ⟨j + 1, by omega, by go_num, h1, h2, h3⟩
            · obtain rfl : j = sh.length := by omega
              have HP : Hid (SpR w B S (mk_c M calls.length) (mk_t M tr.length) (mk_s M sh.length) words (.slice Ac calls.length kc) (.slice At tr.length kt) (.slice As sh.length ks) (.slice Aw words.length kw) wr) := by
                show SpR _ _ _ _ _ _ _ _ _ _ _ _
                have h9 := HPj.out
                rw [List.drop_length, List.append_nil] at h9
                exact h9
              have HX := HXj
              have HY := HYj
              clear HPj HXj HYj x0 x1 x2 x3 hlt
              obtain ⟨V3, rfl⟩ : ∃ V3 : World, V3 = wr := ⟨_, rfl⟩
              have x0 : V3.cell? ⟨w.heap.size, 0, none⟩ = some (.slice Ac calls.length kc) := HX.out.cell rfl
              have x1 : V3.cell? ⟨w.heap.size, 1, none⟩ = some (.slice At tr.length kt) := HX.out.cell rfl
              have x2 : V3.cell? ⟨w.heap.size, 2, none⟩ = some (.slice As sh.length ks) := HX.out.cell rfl
              have x3 : V3.cell? ⟨w.heap.size, 3, none⟩ = some (.slice Aw words.length kw) := HX.out.cell rfl
              go_wp2_with fail
              go_loopg [8] words.length (fun gk i wr => ∃ j : Nat, j + gk = words.length ∧ i = .int .i64 j ∧ Hid (SpR w B S (mk_c M calls.length) (mk_t M tr.length) (mk_s M sh.length) (mk_u M j ++ words.drop j) (.slice Ac calls.length kc) (.slice At tr.length kt) (.slice As sh.length ks) (.slice Aw words.length kw) wr) ∧ Hid (Blk wr w.heap.size 39 [.slice Ac calls.length kc, .slice At tr.length kt, .slice As sh.length ks, .slice Aw words.length kw]) ∧ Hid (Blk wr (w.heap.size + 1) 39 [.slice none 0 0, .slice none 0 0, .slice none 0 0, .slice none 0 0]))
              case atStart => exact ⟨0, by omega, rfl, by show SpR _ _ _ _ _ _ _ _ _ _ _ _; rw [mk_u, List.drop_zero]; exact HP.out, HX, HY⟩
              case round =>
                obtain ⟨j, hj, rfl, HPj, HXj, HYj⟩ := hrel
                have x0 : wr.cell? ⟨w.heap.size, 0, none⟩ = some (.slice Ac calls.length kc) := HXj.out.cell rfl
                have x1 : wr.cell? ⟨w.heap.size, 1, none⟩ = some (.slice At tr.length kt) := HXj.out.cell rfl
                have x2 : wr.cell? ⟨w.heap.size, 2, none⟩ = some (.slice As sh.length ks) := HXj.out.cell rfl
                have x3 : wr.cell? ⟨w.heap.size, 3, none⟩ = some (.slice Aw words.length kw) := HXj.out.cell rfl

                have hxl := HXj.out.lt
                by_cases hlt : j < words.length
                · have e1 : (j : Int) < words.length := by omega
                  have e0 : (0 : Int) ≤ j := by omega
                  have q8 : IntKind.u64.wrap M = M := IntWalk.u64_in _ (by omega)
                  have q7 : IntKind.u64.wrap (j : Int) = j := IntWalk.u64_in _ (by omega)
                  have q6 : IntKind.u64.wrap (M + j) = M + j := IntWalk.u64_in _ (by omega)

                  have hlen : (mk_u M j ++ words.drop j).length = words.length := by rw [List.length_append, mk_u_len, List.length_drop]; omega
                  have ho := HPj.out.ou
                  rw [hlen] at ho
                  obtain ⟨g, hA, hBg, hR⟩ := Rw.of_own ho (by omega)
                  obtain ⟨x, hxj⟩ : ∃ x, (mk_u M j ++ words.drop j)[j]? = some x := at_lt (by omega)
                  subst hA
                  have t0 : wr.cell? ⟨g, j, none⟩ = some (.int .u64 x) := hR.cell (u64s_at9 hxj)
                  have f0 := hR.frozen (j)

                  have hgl := hR.lt
                  have HR := Lib.hid hR
                  have hgx : g ≠ w.heap.size := fun e => by
                    have h9 := own_blk_ne ho HXj.out (by decide)
                    rw [← e] at h9
                    exact h9 rfl
                  have hgy : g ≠ w.heap.size + 1 := fun e => by
                    have h9 := own_blk_ne ho HYj.out (by decide)
                    rw [← e] at h9
                    exact h9 rfl
                  have HE : Hid (∀ W, W = wr.setCell ⟨g, j, none⟩ (.int .u64 (M + j)) → SpR w B S (mk_c M calls.length) (mk_t M tr.length) (mk_s M sh.length) (mk_u M (j + 1) ++ words.drop (j + 1)) (.slice Ac calls.length kc) (.slice At tr.length kt) (.slice As sh.length ks) (.slice (some ⟨g, 0, none⟩) words.length kw) W ∧ Blk W w.heap.size 39 [.slice Ac calls.length kc, .slice At tr.length kt, .slice As sh.length ks, .slice (some ⟨g, 0, none⟩) words.length kw] ∧ Blk W (w.heap.size + 1) 39 [.slice none 0 0, .slice none 0 0, .slice none 0 0, .slice none 0 0]) := Lib.hid fun W e => by
                    have hg9 : wr.grownBy W (some g) := by rw [e]; exact gb_set _ _ _ _
                    have h9 := hR.set_ (j) (.int .u64 (M + j))
                    rw [u64s_set (by rw [hlen]; exact hlt) (M + j), mk_u_next hlt, ← e] at h9
                    have hl2 : (mk_u M (j + 1) ++ words.drop (j + 1)).length = words.length := by rw [List.length_append, mk_u_len, List.length_drop]; omega
                    refine ⟨HPj.out.step_u hg9 (by rw [hl2]; exact h9.own hBg) (HPj.out.su), HXj.out.grown hg9 (fun e => hgx (by injection e with e; exact e.symm)), HYj.out.grown hg9 (fun e => hgy (by injection e with e; exact e.symm))⟩
                  clear hR hxj ho
                  go_wp2_with fail
                  go_roundg (gk - 1)
                  case measure => omega
                  case rel =>
                    obtain ⟨h1, h2, h3⟩ := HE.out _ rfl
                    exact ⟨j + 1, by omega, by go_num, h1, h2, h3⟩
                · obtain rfl : j = words.length := by omega
                  have HP : Hid (SpR w B S (mk_c M calls.length) (mk_t M tr.length) (mk_s M sh.length) (mk_u M words.length) (.slice Ac calls.length kc) (.slice At tr.length kt) (.slice As sh.length ks) (.slice Aw words.length kw) wr) := by
                    show SpR _ _ _ _ _ _ _ _ _ _ _ _
                    have h9 := HPj.out
                    rw [List.drop_length, List.append_nil] at h9
                    exact h9
                  have HX := HXj
                  have HY := HYj
                  clear HPj HXj HYj x0 x1 x2 x3 hlt
                  obtain ⟨V4, rfl⟩ : ∃ V4 : World, V4 = wr := ⟨_, rfl⟩
                  have x0 : V4.cell? ⟨w.heap.size, 0, none⟩ = some (.slice Ac calls.length kc) := HX.out.cell rfl
                  have x1 : V4.cell? ⟨w.heap.size, 1, none⟩ = some (.slice At tr.length kt) := HX.out.cell rfl
                  have x2 : V4.cell? ⟨w.heap.size, 2, none⟩ = some (.slice As sh.length ks) := HX.out.cell rfl
                  have x3 : V4.cell? ⟨w.heap.size, 3, none⟩ = some (.slice Aw words.length kw) := HX.out.cell rfl
                  go_wp2_with fail
                  go_loopg [9] 70 (fun gk i wr => ∃ (q : Nat) (A0 A1 A2 A3 : Option Addr) (k0 k1 k2 k3 : Nat), q + gk = 70 ∧ i = .int .i64 q ∧ Hid (SpR w B S (mk_c M calls.length ++ tl_c M q) (mk_t M tr.length ++ tl_t M q) (mk_s M sh.length ++ tl_s M q) (mk_u M words.length ++ tl_u M q) (.slice A0 (calls.length + q) k0) (.slice A1 (tr.length + q) k1) (.slice A2 (sh.length + q) k2) (.slice A3 (words.length + q) k3) wr) ∧ Hid (Blk wr w.heap.size 39 [.slice A0 (calls.length + q) k0, .slice A1 (tr.length + q) k1, .slice A2 (sh.length + q) k2, .slice A3 (words.length + q) k3]) ∧ Hid (Blk wr (w.heap.size + 1) 39 [.slice none 0 0, .slice none 0 0, .slice none 0 0, .slice none 0 0]))
                  case atStart => exact ⟨0, Ac, At, As, Aw, kc, kt, ks, kw, by omega, rfl, by show SpR _ _ _ _ _ _ _ _ _ _ _ _; rw [show tl_c M 0 = [] from rfl, show tl_t M 0 = [] from rfl, show tl_s M 0 = [] from rfl, show tl_u M 0 = [] from rfl, List.append_nil, List.append_nil, List.append_nil, List.append_nil]; exact HP.out, HX, HY⟩
                  case round =>
                    clear HP HX HY x0 x1 x2 x3
                    obtain ⟨q, A0, A1, A2, A3, k0, k1, k2, k3, hq, rfl, HP0, HX0, HY0⟩ := hrel
                    by_cases hlt : q < 70
                    · have e1 : (q : Int) < 70 := by omega
                      have e0 : (0 : Int) ≤ q := by omega
                      obtain ⟨W0, rfl⟩ : ∃ W0 : World, W0 = wr := ⟨_, rfl⟩
                      have x0 : W0.cell? ⟨w.heap.size, 0, none⟩ = some (.slice A0 (calls.length + q) k0) := HX0.out.cell rfl
                      have y0 := HX0.out.frozen 0
                      have hxl0 := HX0.out.lt
                      have p6 : IntKind.i64.wrap (-M - q) = -M - q := IntWalk.i64_in _ (by omega)
                      have p7 : IntKind.i64.wrap (-M) = -M := IntWalk.i64_in _ (by omega)

                      have hz0 : calVals (mk_c M calls.length ++ tl_c M q) ++ [.int .i64 (-M - q), .int .i64 (0), .int .i64 (0), .int .i64 (0), .int .i64 (0), .int .i64 (0), .int .i64 (0), .int .i64 (0), .int .i64 (0)] = calVals (mk_c M calls.length ++ tl_c M (q + 1)) := by
                        rw [← tl_c_next, ← List.append_assoc]
                        simp [calVals]


                      have HZ0 := Lib.hid hz0
                      have hlen0 : (mk_c M calls.length ++ tl_c M q).length = calls.length + q := by rw [List.length_append, mk_c_len, tl_c_len]
                      have ho0 := HP0.out.oc
                      rw [hlen0] at ho0
                      have HO0 := Lib.hid ho0
                      clear hz0 ho0
                      have hne0 : (62 : TypeId) ≠ 39 := by decide
                      have hzz0 : B ≤ W0.heap.size := Nat.le_trans hB HP0.out.kp.size
                      go_upto_region 21 with (at_builtin; go_must (refine wpList_app _ rfl _ _ 35 rfl B 62 i1 (.agg #[.int .i64 0, .int .i64 0, .int .i64 0, .int .i64 0, .int .i64 0, .int .i64 0, .int .i64 0, .int .i64 0, .int .i64 0]) 9 72 Try.underlying35 hi1 hi1z hi1s hi1b rfl (by decide) (.slice A0 (calls.length + q) k0) (calls.length + q) (calVals (mk_c M calls.length ++ tl_c M q)) rfl (HO0.out.alloc _) (W0.heap.size + 1) (some ⟨W0.heap.size, 0, none⟩) 1 1 [.int .i64 (-M - q), .int .i64 (0), .int .i64 (0), .int .i64 (0), .int .i64 (0), .int .i64 (0), .int .i64 (0), .int .i64 (0), .int .i64 (0)] rfl (((Blk.new W0 62 _).sl rfl).up (by simp)) (calL_one ⟨-M - q, 0, 0, 0, 0, 0, 0, 0, 0⟩) (calls.length + (q + 1)) (by omega) _ HZ0.out _ rfl (by simp only [maxLen]; omega) (by omega) (by rw [World.size_alloc]; omega) ?_; intro A09 k09 X0 hown0 hg0 hat0 hk0 hk0'; have hbx0 := spo_box HX0.out HO0.out hne0 hg0; have x0' := hbx0.cell (i := 0) rfl; have y0' := hbx0.frozen 0))
                      obtain ⟨W1, hW1, HP1, HX1, HY1⟩ : ∃ W1, W1 = X0.setCell ⟨w.heap.size, 0, none⟩ (.slice A09 (calls.length + (q + 1)) k09) ∧ Hid (SpR w B S (mk_c M calls.length ++ tl_c M (q + 1)) (mk_t M tr.length ++ tl_t M q) (mk_s M sh.length ++ tl_s M q) (mk_u M words.length ++ tl_u M q) (.slice A09 (calls.length + (q + 1)) k09) (.slice A1 (tr.length + q) k1) (.slice A2 (sh.length + q) k2) (.slice A3 (words.length + q) k3) W1) ∧ Hid (Blk W1 w.heap.size 39 [.slice A09 (calls.length + (q + 1)) k09, .slice A1 (tr.length + q) k1, .slice A2 (sh.length + q) k2, .slice A3 (words.length + q) k3]) ∧ Hid (Blk W1 (w.heap.size + 1) 39 [.slice none 0 0, .slice none 0 0, .slice none 0 0, .slice none 0 0]) := by
                        have hbx := hbx0
                        have hby := spo_box HY0.out HO0.out hne0 hg0
                        have hlen' : (mk_c M calls.length ++ tl_c M (q + 1)).length = calls.length + (q + 1) := by rw [List.length_append, mk_c_len, tl_c_len]
                        have hst := (HP0.out.alloc (.cells #[.int .i64 (-M - q), .int .i64 (0), .int .i64 (0), .int .i64 (0), .int .i64 (0), .int .i64 (0), .int .i64 (0), .int .i64 (0), .int .i64 (0)] 62)).step_c (C' := mk_c M calls.length ++ tl_c M (q + 1)) hg0 (by rw [hlen']; exact hown0) (fun r hr => by
                          rcases hat0 with h9 | h9
                          · exact HP0.out.sc r (by rw [← h9]; exact hr)
                          · rw [h9] at hr
                            injection hr with hr
                            rw [World.size_alloc] at hr
                            exact HSn.out r (by have := HP0.out.kp.size; omega))
                        exact ⟨_, rfl, hst.box hbx (HSn.out _ (Nat.le_refl _)) _ _, hbx.set_ 0 _, hby.far (by simp) _⟩
                      rw [← hW1]
                      clear hW1 hown0 hg0 hat0 x0 y0 x0' y0' hbx0 hne0 p6 p7 HO0 HZ0 HP0 HX0 HY0
                      have x1 : W1.cell? ⟨w.heap.size, 1, none⟩ = some (.slice A1 (tr.length + q) k1) := HX1.out.cell rfl
                      have y1 := HX1.out.frozen 1
                      have hxl1 := HX1.out.lt
                      have p6 : IntKind.i64.wrap (-M - q) = -M - q := IntWalk.i64_in _ (by omega)
                      have p7 : IntKind.i64.wrap (-M) = -M := IntWalk.i64_in _ (by omega)

                      have hz1 : acVals (mk_t M tr.length ++ tl_t M q) ++ [.int .i64 (-M - q), .int .i64 (0), .int .i64 (0), .int .i64 (0), .int .u64 (0), .int .u64 (0), .int .u64 (0)] = acVals (mk_t M tr.length ++ tl_t M (q + 1)) := by
                        rw [← tl_t_next, ← List.append_assoc]
                        simp [acVals]


                      have HZ1 := Lib.hid hz1
                      have hlen1 : (mk_t M tr.length ++ tl_t M q).length = tr.length + q := by rw [List.length_append, mk_t_len, tl_t_len]
                      have ho1 := HP1.out.ot
                      rw [hlen1] at ho1
                      have HO1 := Lib.hid ho1
                      clear hz1 ho1
                      have hne1 : (66 : TypeId) ≠ 39 := by decide
                      have hzz1 : B ≤ W1.heap.size := Nat.le_trans hB HP1.out.kp.size
                      go_upto_region 22 with (at_builtin; go_must (refine wpList_app _ rfl _ _ 36 rfl B 66 i2 (.agg #[.int .i64 0, .int .i64 0, .int .i64 0, .int .i64 0, .int .u64 0, .int .u64 0, .int .u64 0]) 7 56 Try.underlying36 hi2 hi2z hi2s hi2b rfl (by decide) (.slice A1 (tr.length + q) k1) (tr.length + q) (acVals (mk_t M tr.length ++ tl_t M q)) rfl (HO1.out.alloc _) (W1.heap.size + 1) (some ⟨W1.heap.size, 0, none⟩) 1 1 [.int .i64 (-M - q), .int .i64 (0), .int .i64 (0), .int .i64 (0), .int .u64 (0), .int .u64 (0), .int .u64 (0)] rfl (((Blk.new W1 66 _).sl rfl).up (by simp)) (acL_one' ⟨-M - q, 0, 0, 0, 0, 0, 0⟩) (tr.length + (q + 1)) (by omega) _ HZ1.out _ rfl (by simp only [maxLen]; omega) (by omega) (by rw [World.size_alloc]; omega) ?_; intro A19 k19 X1 hown1 hg1 hat1 hk1 hk1'; have hbx1 := spo_box HX1.out HO1.out hne1 hg1; have x1' := hbx1.cell (i := 1) rfl; have y1' := hbx1.frozen 1))
                      obtain ⟨W2, hW2, HP2, HX2, HY2⟩ : ∃ W2, W2 = X1.setCell ⟨w.heap.size, 1, none⟩ (.slice A19 (tr.length + (q + 1)) k19) ∧ Hid (SpR w B S (mk_c M calls.length ++ tl_c M (q + 1)) (mk_t M tr.length ++ tl_t M (q + 1)) (mk_s M sh.length ++ tl_s M q) (mk_u M words.length ++ tl_u M q) (.slice A09 (calls.length + (q + 1)) k09) (.slice A19 (tr.length + (q + 1)) k19) (.slice A2 (sh.length + q) k2) (.slice A3 (words.length + q) k3) W2) ∧ Hid (Blk W2 w.heap.size 39 [.slice A09 (calls.length + (q + 1)) k09, .slice A19 (tr.length + (q + 1)) k19, .slice A2 (sh.length + q) k2, .slice A3 (words.length + q) k3]) ∧ Hid (Blk W2 (w.heap.size + 1) 39 [.slice none 0 0, .slice none 0 0, .slice none 0 0, .slice none 0 0]) := by
                        have hbx := hbx1
                        have hby := spo_box HY1.out HO1.out hne1 hg1
                        have hlen' : (mk_t M tr.length ++ tl_t M (q + 1)).length = tr.length + (q + 1) := by rw [List.length_append, mk_t_len, tl_t_len]
                        have hst := (HP1.out.alloc (.cells #[.int .i64 (-M - q), .int .i64 (0), .int .i64 (0), .int .i64 (0), .int .u64 (0), .int .u64 (0), .int .u64 (0)] 66)).step_t (T' := mk_t M tr.length ++ tl_t M (q + 1)) hg1 (by rw [hlen']; exact hown1) (fun r hr => by
                          rcases hat1 with h9 | h9
                          · exact HP1.out.st r (by rw [← h9]; exact hr)
                          · rw [h9] at hr
                            injection hr with hr
                            rw [World.size_alloc] at hr
                            exact HSn.out r (by have := HP1.out.kp.size; omega))
                        exact ⟨_, rfl, hst.box hbx (HSn.out _ (Nat.le_refl _)) _ _, hbx.set_ 1 _, hby.far (by simp) _⟩
                      rw [← hW2]
                      clear hW2 hown1 hg1 hat1 x1 y1 x1' y1' hbx1 hne1 p6 p7 HO1 HZ1 HP1 HX1 HY1
                      have x2 : W2.cell? ⟨w.heap.size, 2, none⟩ = some (.slice A2 (sh.length + q) k2) := HX2.out.cell rfl
                      have y2 := HX2.out.frozen 2
                      have hxl2 := HX2.out.lt
                      have p6 : IntKind.i64.wrap (-M - q) = -M - q := IntWalk.i64_in _ (by omega)
                      have p7 : IntKind.i64.wrap (-M) = -M := IntWalk.i64_in _ (by omega)

                      have hz2 : sfVals (mk_s M sh.length ++ tl_s M q) ++ [.int .i64 (-M - q), .int .i64 (0), .int .i64 (0), .int .i64 (0), .int .i64 (0)] = sfVals (mk_s M sh.length ++ tl_s M (q + 1)) := by
                        rw [← tl_s_next, ← List.append_assoc]
                        simp [sfVals]


                      have HZ2 := Lib.hid hz2
                      have hlen2 : (mk_s M sh.length ++ tl_s M q).length = sh.length + q := by rw [List.length_append, mk_s_len, tl_s_len]
                      have ho2 := HP2.out.os
                      rw [hlen2] at ho2
                      have HO2 := Lib.hid ho2
                      clear hz2 ho2
                      have hne2 : (94 : TypeId) ≠ 39 := by decide
                      have hzz2 : B ≤ W2.heap.size := Nat.le_trans hB HP2.out.kp.size
                      go_upto_region 23 with (at_builtin; go_must (refine wpList_app _ rfl _ _ 37 rfl B 94 i3 (.agg #[.int .i64 0, .int .i64 0, .int .i64 0, .int .i64 0, .int .i64 0]) 5 40 Try.underlying37 hi3 hi3z hi3s hi3b rfl (by decide) (.slice A2 (sh.length + q) k2) (sh.length + q) (sfVals (mk_s M sh.length ++ tl_s M q)) rfl (HO2.out.alloc _) (W2.heap.size + 1) (some ⟨W2.heap.size, 0, none⟩) 1 1 [.int .i64 (-M - q), .int .i64 (0), .int .i64 (0), .int .i64 (0), .int .i64 (0)] rfl (((Blk.new W2 94 _).sl rfl).up (by simp)) (sfL_one ⟨-M - q, 0, 0, 0, 0⟩) (sh.length + (q + 1)) (by omega) _ HZ2.out _ rfl (by simp only [maxLen]; omega) (by omega) (by rw [World.size_alloc]; omega) ?_; intro A29 k29 X2 hown2 hg2 hat2 hk2 hk2'; have hbx2 := spo_box HX2.out HO2.out hne2 hg2; have x2' := hbx2.cell (i := 2) rfl; have y2' := hbx2.frozen 2))
                      obtain ⟨W3, hW3, HP3, HX3, HY3⟩ : ∃ W3, W3 = X2.setCell ⟨w.heap.size, 2, none⟩ (.slice A29 (sh.length + (q + 1)) k29) ∧ Hid (SpR w B S (mk_c M calls.length ++ tl_c M (q + 1)) (mk_t M tr.length ++ tl_t M (q + 1)) (mk_s M sh.length ++ tl_s M (q + 1)) (mk_u M words.length ++ tl_u M q) (.slice A09 (calls.length + (q + 1)) k09) (.slice A19 (tr.length + (q + 1)) k19) (.slice A29 (sh.length + (q + 1)) k29) (.slice A3 (words.length + q) k3) W3) ∧ Hid (Blk W3 w.heap.size 39 [.slice A09 (calls.length + (q + 1)) k09, .slice A19 (tr.length + (q + 1)) k19, .slice A29 (sh.length + (q + 1)) k29, .slice A3 (words.length + q) k3]) ∧ Hid (Blk W3 (w.heap.size + 1) 39 [.slice none 0 0, .slice none 0 0, .slice none 0 0, .slice none 0 0]) := by
                        have hbx := hbx2
                        have hby := spo_box HY2.out HO2.out hne2 hg2
                        have hlen' : (mk_s M sh.length ++ tl_s M (q + 1)).length = sh.length + (q + 1) := by rw [List.length_append, mk_s_len, tl_s_len]
                        have hst := (HP2.out.alloc (.cells #[.int .i64 (-M - q), .int .i64 (0), .int .i64 (0), .int .i64 (0), .int .i64 (0)] 94)).step_s (F' := mk_s M sh.length ++ tl_s M (q + 1)) hg2 (by rw [hlen']; exact hown2) (fun r hr => by
                          rcases hat2 with h9 | h9
                          · exact HP2.out.ss r (by rw [← h9]; exact hr)
                          · rw [h9] at hr
                            injection hr with hr
                            rw [World.size_alloc] at hr
                            exact HSn.out r (by have := HP2.out.kp.size; omega))
                        exact ⟨_, rfl, hst.box hbx (HSn.out _ (Nat.le_refl _)) _ _, hbx.set_ 2 _, hby.far (by simp) _⟩
                      rw [← hW3]
                      clear hW3 hown2 hg2 hat2 x2 y2 x2' y2' hbx2 hne2 p6 p7 HO2 HZ2 HP2 HX2 HY2
                      have x3 : W3.cell? ⟨w.heap.size, 3, none⟩ = some (.slice A3 (words.length + q) k3) := HX3.out.cell rfl
                      have y3 := HX3.out.frozen 3
                      have hxl3 := HX3.out.lt
                      obtain ⟨c6, hc6⟩ : ∃ c6, c6 = M + 1000000 := ⟨_, rfl⟩
                      have p6 : IntKind.u64.wrap (M + 1000000) = c6 := by rw [hc6]; exact IntWalk.u64_in _ (by omega)
                      have p7 : IntKind.u64.wrap M = M := IntWalk.u64_in _ (by omega)

                      have hz3 : u64s (mk_u M words.length ++ tl_u M q) ++ [.int .u64 c6] = u64s (mk_u M words.length ++ tl_u M (q + 1)) := by
                        rw [← tl_u_next, ← List.append_assoc]
                        simp [u64s, hc6]
                      clear hc6

                      have HZ3 := Lib.hid hz3
                      have hlen3 : (mk_u M words.length ++ tl_u M q).length = words.length + q := by rw [List.length_append, mk_u_len, tl_u_len]
                      have ho3 := HP3.out.ou
                      rw [hlen3] at ho3
                      have HO3 := Lib.hid ho3
                      clear hz3 ho3
                      have hne3 : (34 : TypeId) ≠ 39 := by decide
                      have hzz3 : B ≤ W3.heap.size := Nat.le_trans hB HP3.out.kp.size
                      go_wp2_with (at_builtin; go_must (refine wpList_app _ rfl _ _ 27 rfl B 34 i4 (.int .u64 0) 1 8 Try.underlying27 hi4 hi4z hi4s hi4b rfl (by decide) (.slice A3 (words.length + q) k3) (words.length + q) (u64s (mk_u M words.length ++ tl_u M q)) rfl (HO3.out.alloc _) (W3.heap.size + 1) (some ⟨W3.heap.size, 0, none⟩) 1 1 [.int .u64 c6] rfl (((Blk.new W3 34 _).sl rfl).up (by simp)) (u1_one _) (words.length + (q + 1)) (by omega) _ HZ3.out _ rfl (by simp only [maxLen]; omega) (by omega) (by rw [World.size_alloc]; omega) ?_; intro A39 k39 X3 hown3 hg3 hat3 hk3 hk3'; have hbx3 := spo_box HX3.out HO3.out hne3 hg3; have x3' := hbx3.cell (i := 3) rfl; have y3' := hbx3.frozen 3))
                      obtain ⟨W4, hW4, HP4, HX4, HY4⟩ : ∃ W4, W4 = X3.setCell ⟨w.heap.size, 3, none⟩ (.slice A39 (words.length + (q + 1)) k39) ∧ Hid (SpR w B S (mk_c M calls.length ++ tl_c M (q + 1)) (mk_t M tr.length ++ tl_t M (q + 1)) (mk_s M sh.length ++ tl_s M (q + 1)) (mk_u M words.length ++ tl_u M (q + 1)) (.slice A09 (calls.length + (q + 1)) k09) (.slice A19 (tr.length + (q + 1)) k19) (.slice A29 (sh.length + (q + 1)) k29) (.slice A39 (words.length + (q + 1)) k39) W4) ∧ Hid (Blk W4 w.heap.size 39 [.slice A09 (calls.length + (q + 1)) k09, .slice A19 (tr.length + (q + 1)) k19, .slice A29 (sh.length + (q + 1)) k29, .slice A39 (words.length + (q + 1)) k39]) ∧ Hid (Blk W4 (w.heap.size + 1) 39 [.slice none 0 0, .slice none 0 0, .slice none 0 0, .slice none 0 0]) := by
                        have hbx := hbx3
                        have hby := spo_box HY3.out HO3.out hne3 hg3
                        have hlen' : (mk_u M words.length ++ tl_u M (q + 1)).length = words.length + (q + 1) := by rw [List.length_append, mk_u_len, tl_u_len]
                        have hst := (HP3.out.alloc (.cells #[.int .u64 c6] 34)).step_u (U' := mk_u M words.length ++ tl_u M (q + 1)) hg3 (by rw [hlen']; exact hown3) (fun r hr => by
                          rcases hat3 with h9 | h9
                          · exact HP3.out.su r (by rw [← h9]; exact hr)
                          · rw [h9] at hr
                            injection hr with hr
                            rw [World.size_alloc] at hr
                            exact HSn.out r (by have := HP3.out.kp.size; omega))
                        exact ⟨_, rfl, hst.box hbx (HSn.out _ (Nat.le_refl _)) _ _, hbx.set_ 3 _, hby.far (by simp) _⟩
                      rw [← hW4]
                      clear hW4 hown3 hg3 hat3 x3 y3 x3' y3' hbx3 hne3 p6 p7 HO3 HZ3 HP3 HX3 HY3
                      go_wp2_with fail
                      go_roundg (gk - 1)
                      case measure => omega
                      case rel => exact ⟨q + 1, A09, A19, A29, A39, k09, k19, k29, k39, by omega, by go_num, HP4, HX4, HY4⟩
                    · obtain rfl : q = 70 := by omega
                      have x0 : wr.cell? ⟨w.heap.size, 0, none⟩ = some (.slice A0 (calls.length + 70) k0) := HX0.out.cell rfl
                      have z0 : wr.cell? ⟨w.heap.size + 1, 0, none⟩ = some (.slice none 0 0) := HY0.out.cell rfl
                      have f0 := HY0.out.frozen 0
                      have x1 : wr.cell? ⟨w.heap.size, 1, none⟩ = some (.slice A1 (tr.length + 70) k1) := HX0.out.cell rfl
                      have z1 : wr.cell? ⟨w.heap.size + 1, 1, none⟩ = some (.slice none 0 0) := HY0.out.cell rfl
                      have f1 := HY0.out.frozen 1
                      have x2 : wr.cell? ⟨w.heap.size, 2, none⟩ = some (.slice A2 (sh.length + 70) k2) := HX0.out.cell rfl
                      have z2 : wr.cell? ⟨w.heap.size + 1, 2, none⟩ = some (.slice none 0 0) := HY0.out.cell rfl
                      have f2 := HY0.out.frozen 2
                      have x3 : wr.cell? ⟨w.heap.size, 3, none⟩ = some (.slice A3 (words.length + 70) k3) := HX0.out.cell rfl
                      have z3 : wr.cell? ⟨w.heap.size + 1, 3, none⟩ = some (.slice none 0 0) := HY0.out.cell rfl
                      have f3 := HY0.out.frozen 3

                      have hxl := HX0.out.lt
                      have hyl := HY0.out.lt
                      go_wp2_with fail
                      obtain ⟨VF, hVF, HPF, HYF⟩ : ∃ VF, VF = (((wr.setCell ⟨w.heap.size + 1, 0, none⟩ (.slice A0 (calls.length + 70) k0)).setCell ⟨w.heap.size + 1, 1, none⟩ (.slice A1 (tr.length + 70) k1)).setCell ⟨w.heap.size + 1, 2, none⟩ (.slice A2 (sh.length + 70) k2)).setCell ⟨w.heap.size + 1, 3, none⟩ (.slice A3 (words.length + 70) k3) ∧ Hid (SpR w B S (mk_c M calls.length ++ tl_c M 70) (mk_t M tr.length ++ tl_t M 70) (mk_s M sh.length ++ tl_s M 70) (mk_u M words.length ++ tl_u M 70) (.slice A0 (calls.length + 70) k0) (.slice A1 (tr.length + 70) k1) (.slice A2 (sh.length + 70) k2) (.slice A3 (words.length + 70) k3) VF) ∧ Blk VF (w.heap.size + 1) 39 [.slice A0 (calls.length + 70) k0, .slice A1 (tr.length + 70) k1, .slice A2 (sh.length + 70) k2, .slice A3 (words.length + 70) k3] := by
                        have s1 := HSn.out (w.heap.size + 1) (by omega)
                        have b0 := HY0.out
                        have b1 := b0.set_ 0 (.slice A0 (calls.length + 70) k0)
                        have b2 := b1.set_ 1 (.slice A1 (tr.length + 70) k1)
                        have b3 := b2.set_ 2 (.slice A2 (sh.length + 70) k2)
                        exact ⟨_, rfl, (((HP0.out.box b0 s1 _ _).box b1 s1 _ _).box b2 s1 _ _).box b3 s1 _ _, b3.set_ 3 _⟩
                      rw [← hVF]
                      clear hVF
                      refine bodyPost_ret_by (results_cell_row rfl _ _ (w.heap.size + 1) 39 _ (0, 0) _ rfl HYF Try.underlying39 rfl (by kernel_rfl)) rfl ?_
                      rw [HGoal.out]
                      exact ⟨A0, A1, A2, A3, k0, k1, k2, k3, rfl, HPF.out⟩
end Go.Proofs.Ytjnmlgfkiebkgaa
namespace Go.Proofs.Ytjnmlgfkiebkgaa
open Go.RowKit
set_option linter.unusedVariables false
set_option linter.unusedSimpArgs false

theorem sp_c_len (M : Int) (n : Nat) : (sp_c M n).length = n + 70 := by rw [sp_c, List.length_append, mk_c_len, tl_c_len]
theorem sp_c_lo {M : Int} {n j : Nat} (h : j < n) : (sp_c M n)[j]? = some (⟨M + j, 0, -M, 0, 0, 0, 0, 0, 0⟩) := by
  rw [sp_c, List.getElem?_append_left (by rw [mk_c_len]; exact h), mk_c, List.getElem?_map, List.getElem?_range h]
  rfl
theorem sp_c_hi {M : Int} {n q : Nat} (h : q < 70) : (sp_c M n)[n + q]? = some (⟨-M - q, 0, 0, 0, 0, 0, 0, 0, 0⟩) := by
  rw [sp_c, List.getElem?_append_right (by rw [mk_c_len]; omega), mk_c_len, Nat.add_sub_cancel_left, tl_c, List.getElem?_map, List.getElem?_range h]
  rfl
theorem sp_t_len (M : Int) (n : Nat) : (sp_t M n).length = n + 70 := by rw [sp_t, List.length_append, mk_t_len, tl_t_len]
theorem sp_t_lo {M : Int} {n j : Nat} (h : j < n) : (sp_t M n)[j]? = some (⟨M + j, 0, 0, -M, 0, 0, 0⟩) := by
  rw [sp_t, List.getElem?_append_left (by rw [mk_t_len]; exact h), mk_t, List.getElem?_map, List.getElem?_range h]
  rfl
theorem sp_t_hi {M : Int} {n q : Nat} (h : q < 70) : (sp_t M n)[n + q]? = some (⟨-M - q, 0, 0, 0, 0, 0, 0⟩) := by
  rw [sp_t, List.getElem?_append_right (by rw [mk_t_len]; omega), mk_t_len, Nat.add_sub_cancel_left, tl_t, List.getElem?_map, List.getElem?_range h]
  rfl
theorem sp_s_len (M : Int) (n : Nat) : (sp_s M n).length = n + 70 := by rw [sp_s, List.length_append, mk_s_len, tl_s_len]
theorem sp_s_lo {M : Int} {n j : Nat} (h : j < n) : (sp_s M n)[j]? = some (⟨M + j, 0, -M, 0, 0⟩) := by
  rw [sp_s, List.getElem?_append_left (by rw [mk_s_len]; exact h), mk_s, List.getElem?_map, List.getElem?_range h]
  rfl
theorem sp_s_hi {M : Int} {n q : Nat} (h : q < 70) : (sp_s M n)[n + q]? = some (⟨-M - q, 0, 0, 0, 0⟩) := by
  rw [sp_s, List.getElem?_append_right (by rw [mk_s_len]; omega), mk_s_len, Nat.add_sub_cancel_left, tl_s, List.getElem?_map, List.getElem?_range h]
  rfl
theorem sp_u_len (M : Int) (n : Nat) : (sp_u M n).length = n + 70 := by rw [sp_u, List.length_append, mk_u_len, tl_u_len]
theorem sp_u_lo {M : Int} {n j : Nat} (h : j < n) : (sp_u M n)[j]? = some (M + j) := by
  rw [sp_u, List.getElem?_append_left (by rw [mk_u_len]; exact h), mk_u, List.getElem?_map, List.getElem?_range h]
  rfl
theorem sp_u_hi {M : Int} {n q : Nat} (h : q < 70) : (sp_u M n)[n + q]? = some (M + 1000000) := by
  rw [sp_u, List.getElem?_append_right (by rw [mk_u_len]; omega), mk_u_len, Nat.add_sub_cancel_left, tl_u, List.getElem?_map, List.getElem?_range h]
  rfl
set_option maxRecDepth 100000 in
set_option maxHeartbeats 8000000 in
theorem spoilt_any (M : Int) (hM : 0 < M ∧ M ≤ 2000) (n0 n1 n2 n3 : Nat) (a0 a1 a2 a3 b0 b1 b2 b3 : Option Addr) (k0 k1 k2 k3 c0 c1 c2 c3 : Nat) (w : World) (hn : n0 ≤ 100000 ∧ n1 ≤ 100000 ∧ n2 ≤ 100000 ∧ n3 ≤ 100000)
    (hc : Sl w w.heap.size 9 a0 (n0 + 70) (calVals (sp_c M n0))) (ht : Sl w w.heap.size 7 a1 (n1 + 70) (acVals (sp_t M n1))) (hs : Sl w w.heap.size 5 a2 (n2 + 70) (sfVals (sp_s M n2))) (hu : Sl w w.heap.size 1 a3 (n3 + 70) (u64s (sp_u M n3))) :
    Calls Try.prog 26 #[.agg #[.slice a0 (n0 + 70) k0, .slice a1 (n1 + 70) k1, .slice a2 (n2 + 70) k2, .slice a3 (n3 + 70) k3], .agg #[.slice b0 n0 c0, .slice b1 n1 c1, .slice b2 n2 c2, .slice b3 n3 c3], .int .i64 M] w (BoolR true w) := by
  obtain ⟨m0, m1⟩ := hM
  obtain ⟨p0, p1, p2, p3⟩ := hn
  have HS0 := Lib.hid hc
  have HS1 := Lib.hid ht
  have HS2 := Lib.hid hs
  have HS3 := Lib.hid hu
  clear hc ht hs hu
  go_enter Try.func26, Try.ntmps26
  go_upto_region 1 with fail
  have hb0 : Below w.heap.size w ((w.alloc (.cells #[.slice a0 (n0 + 70) k0, .slice a1 (n1 + 70) k1, .slice a2 (n2 + 70) k2, .slice a3 (n3 + 70) k3] 39)).alloc (.cells #[.slice b0 n0 c0, .slice b1 n1 c1, .slice b2 n2 c2, .slice b3 n3 c3] 39)) := ((Below.refl _ _).alloc (Nat.le_refl _) _).alloc (by simp) _
  have ha : Blk ((w.alloc (.cells #[.slice a0 (n0 + 70) k0, .slice a1 (n1 + 70) k1, .slice a2 (n2 + 70) k2, .slice a3 (n3 + 70) k3] 39)).alloc (.cells #[.slice b0 n0 c0, .slice b1 n1 c1, .slice b2 n2 c2, .slice b3 n3 c3] 39)) w.heap.size 39 [.slice a0 (n0 + 70) k0, .slice a1 (n1 + 70) k1, .slice a2 (n2 + 70) k2, .slice a3 (n3 + 70) k3] := (Blk.new w _ _).alloc _
  have hb : Blk ((w.alloc (.cells #[.slice a0 (n0 + 70) k0, .slice a1 (n1 + 70) k1, .slice a2 (n2 + 70) k2, .slice a3 (n3 + 70) k3] 39)).alloc (.cells #[.slice b0 n0 c0, .slice b1 n1 c1, .slice b2 n2 c2, .slice b3 n3 c3] 39)) (w.heap.size + 1) 39 [.slice b0 n0 c0, .slice b1 n1 c1, .slice b2 n2 c2, .slice b3 n3 c3] := new1_blk' _ _ _ _
  generalize (w.alloc (.cells #[.slice a0 (n0 + 70) k0, .slice a1 (n1 + 70) k1, .slice a2 (n2 + 70) k2, .slice a3 (n3 + 70) k3] 39)).alloc (.cells #[.slice b0 n0 c0, .slice b1 n1 c1, .slice b2 n2 c2, .slice b3 n3 c3] 39) = w0 at hb0 ha hb ⊢
  have HB := Lib.hid hb0
  have HA := Lib.hid ha
  have HD := Lib.hid hb
  clear hb0 ha hb
  obtain ⟨w9, rfl⟩ : ∃ w9 : World, w9 = w0 := ⟨_, rfl⟩
  have HW : Hid (Below w9.heap.size w9 w9) := Lib.hid (Below.refl _ _)
  go_wp2_with fail
  go_loopg [7] (n0 + 70) (fun gk i wr => ∃ (j : Nat) (z : Int), j + gk = n0 + 70 ∧ i = .int .i64 z ∧ Hid (z = j) ∧ Hid (Below w9.heap.size w9 wr))
  case atStart => exact ⟨0, 0, by omega, rfl, rfl, HW⟩
  case round =>
    obtain ⟨j, z, hj, rfl, hz, hBr⟩ := hrel
    have hbw : Below w.heap.size w wr := HB.out.trans (hBr.out.mono HB.out.size)
    have hA9 := HA.out.below hBr.out HA.out.lt
    have hD9 := HD.out.below hBr.out HD.out.lt
    have r0 : wr.cell? ⟨w.heap.size, 0, none⟩ = some (.slice a0 (n0 + 70) k0) := hA9.cell rfl
    have s0 : wr.cell? ⟨w.heap.size + 1, 0, none⟩ = some (.slice b0 n0 c0) := hD9.cell rfl

    have hla := hA9.lt
    have hld := hD9.lt
    clear hA9 hD9
    by_cases hlt : j < n0 + 70
    · have e1 : z < (n0 : Int) + 70 := by rw [hz.out]; omega
      have e1' : decide (z < (n0 : Int) + 70) = true := decide_eq_true e1
      have e0 : (0 : Int) ≤ z := by rw [hz.out]; omega
      have e3 : z.toNat = j := by rw [hz.out]; rfl
      obtain ⟨b, f, hA, hbl, hcell⟩ := (HS0.out.below hbw).2 (by omega)
      have hbe : b < wr.heap.size := by have := hbw.size; omega
      subst hA
      have q1 : IntKind.i64.wrap (z + 1) = z + 1 := by rw [hz.out]; exact IntWalk.i64_in _ (by omega)
      have HQ1 := Lib.hid q1
      clear q1
      by_cases hlo : j < n0
      · have d0 : z < (n0 : Int) := by rw [hz.out]; omega
        have d1 : decide (z < (n0 : Int)) = true := decide_eq_true d0
        have d2 : ¬ (n0 : Int) ≤ z := by omega
        have d3 : decide ((n0 : Int) ≤ z) = false := decide_eq_false d2
        have hx := sp_c_lo (M := M) hlo
        obtain ⟨e9, he9⟩ : ∃ e9, e9 = M + (j : Int) := ⟨_, rfl⟩
        obtain ⟨e8, he8⟩ : ∃ e8, e8 = -M := ⟨_, rfl⟩
        have q6 : IntKind.i64.wrap (M + z) = e9 := by rw [he9, hz.out]; exact IntWalk.i64_in _ (by omega)
        have q7 : IntKind.i64.wrap (-M) = e8 := by rw [he8]; exact IntWalk.i64_in _ (by omega)

        rw [← he9, ← he8] at hx
        have v0 : wr.cell? ⟨b, f + j * 9, none⟩ = some (.int .i64 (e9)) := by have := hcell (j * 9 + 0) _ (calVals_get hx 0 (by omega)); simpa using this
        have v1 : wr.cell? ⟨b, f + j * 9 + 1, none⟩ = some (.int .i64 (0)) := by have := hcell (j * 9 + 1) _ (calVals_get hx 1 (by omega)); rw [← Nat.add_assoc] at this; exact this
        have v2 : wr.cell? ⟨b, f + j * 9 + 2, none⟩ = some (.int .i64 (e8)) := by have := hcell (j * 9 + 2) _ (calVals_get hx 2 (by omega)); rw [← Nat.add_assoc] at this; exact this
        have v3 : wr.cell? ⟨b, f + j * 9 + 3, none⟩ = some (.int .i64 (0)) := by have := hcell (j * 9 + 3) _ (calVals_get hx 3 (by omega)); rw [← Nat.add_assoc] at this; exact this
        have v4 : wr.cell? ⟨b, f + j * 9 + 4, none⟩ = some (.int .i64 (0)) := by have := hcell (j * 9 + 4) _ (calVals_get hx 4 (by omega)); rw [← Nat.add_assoc] at this; exact this
        have v5 : wr.cell? ⟨b, f + j * 9 + 5, none⟩ = some (.int .i64 (0)) := by have := hcell (j * 9 + 5) _ (calVals_get hx 5 (by omega)); rw [← Nat.add_assoc] at this; exact this
        have v6 : wr.cell? ⟨b, f + j * 9 + 6, none⟩ = some (.int .i64 (0)) := by have := hcell (j * 9 + 6) _ (calVals_get hx 6 (by omega)); rw [← Nat.add_assoc] at this; exact this
        have v7 : wr.cell? ⟨b, f + j * 9 + 7, none⟩ = some (.int .i64 (0)) := by have := hcell (j * 9 + 7) _ (calVals_get hx 7 (by omega)); rw [← Nat.add_assoc] at this; exact this
        have v8 : wr.cell? ⟨b, f + j * 9 + 8, none⟩ = some (.int .i64 (0)) := by have := hcell (j * 9 + 8) _ (calVals_get hx 8 (by omega)); rw [← Nat.add_assoc] at this; exact this

        clear hcell hx he9 he8 
        go_upto_region 4 with fail
        go_quiet (fail)
        have q1 := HQ1.out
        go_wp2_with fail
        go_roundg (gk - 1)
        case measure => omega
        case rel => exact ⟨j + 1, z + 1, by omega, rfl, by show _ = _; rw [hz.out]; omega, below_drewN hBr.out nq⟩
      · obtain ⟨q, rfl⟩ : ∃ q, j = n0 + q := ⟨j - n0, by omega⟩
        have d0 : ¬ z < (n0 : Int) := by rw [hz.out]; omega
        have d1 : decide (z < (n0 : Int)) = false := decide_eq_false d0
        have d2 : (n0 : Int) ≤ z := by rw [hz.out]; omega
        have d3 : decide ((n0 : Int) ≤ z) = true := decide_eq_true d2
        have hx := sp_c_hi (M := M) (n := n0) (q := q) (by omega)
        obtain ⟨e9, he9⟩ : ∃ e9, e9 = -M - (q : Int) := ⟨_, rfl⟩
        obtain ⟨e8, he8⟩ : ∃ e8, e8 = -M := ⟨_, rfl⟩
        obtain ⟨y9, hy9⟩ : ∃ y9, y9 = (q : Int) := ⟨_, rfl⟩
        have q7 : IntKind.i64.wrap (-M) = e8 := by rw [he8]; exact IntWalk.i64_in _ (by omega)
        have q5 : IntKind.i64.wrap (z - (n0 : Int)) = y9 := by rw [hy9, hz.out]; exact (IntWalk.i64_in _ (by omega)).trans (by omega)
        have q6 : IntKind.i64.wrap (e8 - y9) = e9 := by rw [he8, he9, hy9]; exact IntWalk.i64_in _ (by omega)

        rw [← he9] at hx
        have v0 : wr.cell? ⟨b, f + (n0 + q) * 9, none⟩ = some (.int .i64 (e9)) := by have := hcell ((n0 + q) * 9 + 0) _ (calVals_get hx 0 (by omega)); simpa using this
        have v1 : wr.cell? ⟨b, f + (n0 + q) * 9 + 1, none⟩ = some (.int .i64 (0)) := by have := hcell ((n0 + q) * 9 + 1) _ (calVals_get hx 1 (by omega)); rw [← Nat.add_assoc] at this; exact this
        have v2 : wr.cell? ⟨b, f + (n0 + q) * 9 + 2, none⟩ = some (.int .i64 (0)) := by have := hcell ((n0 + q) * 9 + 2) _ (calVals_get hx 2 (by omega)); rw [← Nat.add_assoc] at this; exact this
        have v3 : wr.cell? ⟨b, f + (n0 + q) * 9 + 3, none⟩ = some (.int .i64 (0)) := by have := hcell ((n0 + q) * 9 + 3) _ (calVals_get hx 3 (by omega)); rw [← Nat.add_assoc] at this; exact this
        have v4 : wr.cell? ⟨b, f + (n0 + q) * 9 + 4, none⟩ = some (.int .i64 (0)) := by have := hcell ((n0 + q) * 9 + 4) _ (calVals_get hx 4 (by omega)); rw [← Nat.add_assoc] at this; exact this
        have v5 : wr.cell? ⟨b, f + (n0 + q) * 9 + 5, none⟩ = some (.int .i64 (0)) := by have := hcell ((n0 + q) * 9 + 5) _ (calVals_get hx 5 (by omega)); rw [← Nat.add_assoc] at this; exact this
        have v6 : wr.cell? ⟨b, f + (n0 + q) * 9 + 6, none⟩ = some (.int .i64 (0)) := by have := hcell ((n0 + q) * 9 + 6) _ (calVals_get hx 6 (by omega)); rw [← Nat.add_assoc] at this; exact this
        have v7 : wr.cell? ⟨b, f + (n0 + q) * 9 + 7, none⟩ = some (.int .i64 (0)) := by have := hcell ((n0 + q) * 9 + 7) _ (calVals_get hx 7 (by omega)); rw [← Nat.add_assoc] at this; exact this
        have v8 : wr.cell? ⟨b, f + (n0 + q) * 9 + 8, none⟩ = some (.int .i64 (0)) := by have := hcell ((n0 + q) * 9 + 8) _ (calVals_get hx 8 (by omega)); rw [← Nat.add_assoc] at this; exact this

        clear hcell hx he9 he8 hy9
        go_upto_region 4 with fail
        go_quiet (fail)
        have q1 := HQ1.out
        go_wp2_with fail
        go_roundg (gk - 1)
        case measure => omega
        case rel => exact ⟨n0 + q + 1, z + 1, by omega, rfl, by show _ = _; rw [hz.out]; omega, below_drewN hBr.out nq⟩
    · obtain rfl : j = n0 + 70 := by omega
      have e1 : ¬ z < (n0 : Int) + 70 := by rw [hz.out]; omega
      have e1' : decide (z < (n0 : Int) + 70) = false := decide_eq_false e1
      have HW := hBr
      obtain ⟨V0, rfl⟩ : ∃ V : World, V = wr := ⟨_, rfl⟩
      obtain ⟨g0, rfl⟩ : ∃ g : Nat, g = gk := ⟨_, rfl⟩
      go_wp2_with fail
      go_loopg [8] (n1 + 70) (fun gk i wr => ∃ (j : Nat) (z : Int), j + gk = n1 + 70 ∧ i = .int .i64 z ∧ Hid (z = j) ∧ Hid (Below w9.heap.size w9 wr))
      case atStart => exact ⟨0, 0, by omega, rfl, rfl, HW⟩
      case round =>
        obtain ⟨j, z, hj, rfl, hz, hBr⟩ := hrel
        have hbw : Below w.heap.size w wr := HB.out.trans (hBr.out.mono HB.out.size)
        have hA9 := HA.out.below hBr.out HA.out.lt
        have hD9 := HD.out.below hBr.out HD.out.lt
        have r1 : wr.cell? ⟨w.heap.size, 1, none⟩ = some (.slice a1 (n1 + 70) k1) := hA9.cell rfl
        have s1 : wr.cell? ⟨w.heap.size + 1, 1, none⟩ = some (.slice b1 n1 c1) := hD9.cell rfl

        have hla := hA9.lt
        have hld := hD9.lt
        clear hA9 hD9
        by_cases hlt : j < n1 + 70
        · have e1 : z < (n1 : Int) + 70 := by rw [hz.out]; omega
          have e1' : decide (z < (n1 : Int) + 70) = true := decide_eq_true e1
          have e0 : (0 : Int) ≤ z := by rw [hz.out]; omega
          have e3 : z.toNat = j := by rw [hz.out]; rfl
          obtain ⟨b, f, hA, hbl, hcell⟩ := (HS1.out.below hbw).2 (by omega)
          have hbe : b < wr.heap.size := by have := hbw.size; omega
          subst hA
          have q1 : IntKind.i64.wrap (z + 1) = z + 1 := by rw [hz.out]; exact IntWalk.i64_in _ (by omega)
          have HQ1 := Lib.hid q1
          clear q1
          by_cases hlo : j < n1
          · have d0 : z < (n1 : Int) := by rw [hz.out]; omega
            have d1 : decide (z < (n1 : Int)) = true := decide_eq_true d0
            have d2 : ¬ (n1 : Int) ≤ z := by omega
            have d3 : decide ((n1 : Int) ≤ z) = false := decide_eq_false d2
            have hx := sp_t_lo (M := M) hlo
            obtain ⟨e9, he9⟩ : ∃ e9, e9 = M + (j : Int) := ⟨_, rfl⟩
            obtain ⟨e8, he8⟩ : ∃ e8, e8 = -M := ⟨_, rfl⟩
            have q6 : IntKind.i64.wrap (M + z) = e9 := by rw [he9, hz.out]; exact IntWalk.i64_in _ (by omega)
            have q7 : IntKind.i64.wrap (-M) = e8 := by rw [he8]; exact IntWalk.i64_in _ (by omega)

            rw [← he9, ← he8] at hx
            have v0 : wr.cell? ⟨b, f + j * 7, none⟩ = some (.int .i64 (e9)) := by have := hcell (j * 7 + 0) _ (acVals_get' hx 0 (by omega)); simpa using this
            have v1 : wr.cell? ⟨b, f + j * 7 + 1, none⟩ = some (.int .i64 (0)) := by have := hcell (j * 7 + 1) _ (acVals_get' hx 1 (by omega)); rw [← Nat.add_assoc] at this; exact this
            have v2 : wr.cell? ⟨b, f + j * 7 + 2, none⟩ = some (.int .i64 (0)) := by have := hcell (j * 7 + 2) _ (acVals_get' hx 2 (by omega)); rw [← Nat.add_assoc] at this; exact this
            have v3 : wr.cell? ⟨b, f + j * 7 + 3, none⟩ = some (.int .i64 (e8)) := by have := hcell (j * 7 + 3) _ (acVals_get' hx 3 (by omega)); rw [← Nat.add_assoc] at this; exact this
            have v4 : wr.cell? ⟨b, f + j * 7 + 4, none⟩ = some (.int .u64 (0)) := by have := hcell (j * 7 + 4) _ (acVals_get' hx 4 (by omega)); rw [← Nat.add_assoc] at this; exact this
            have v5 : wr.cell? ⟨b, f + j * 7 + 5, none⟩ = some (.int .u64 (0)) := by have := hcell (j * 7 + 5) _ (acVals_get' hx 5 (by omega)); rw [← Nat.add_assoc] at this; exact this
            have v6 : wr.cell? ⟨b, f + j * 7 + 6, none⟩ = some (.int .u64 (0)) := by have := hcell (j * 7 + 6) _ (acVals_get' hx 6 (by omega)); rw [← Nat.add_assoc] at this; exact this

            clear hcell hx he9 he8 
            go_upto_region 9 with fail
            go_quiet (fail)
            have q1 := HQ1.out
            go_wp2_with fail
            go_roundg (gk - 1)
            case measure => omega
            case rel => exact ⟨j + 1, z + 1, by omega, rfl, by show _ = _; rw [hz.out]; omega, below_drewN hBr.out nq⟩
          · obtain ⟨q, rfl⟩ : ∃ q, j = n1 + q := ⟨j - n1, by omega⟩
            have d0 : ¬ z < (n1 : Int) := by rw [hz.out]; omega
            have d1 : decide (z < (n1 : Int)) = false := decide_eq_false d0
            have d2 : (n1 : Int) ≤ z := by rw [hz.out]; omega
            have d3 : decide ((n1 : Int) ≤ z) = true := decide_eq_true d2
            have hx := sp_t_hi (M := M) (n := n1) (q := q) (by omega)
            obtain ⟨e9, he9⟩ : ∃ e9, e9 = -M - (q : Int) := ⟨_, rfl⟩
            obtain ⟨e8, he8⟩ : ∃ e8, e8 = -M := ⟨_, rfl⟩
            obtain ⟨y9, hy9⟩ : ∃ y9, y9 = (q : Int) := ⟨_, rfl⟩
            have q7 : IntKind.i64.wrap (-M) = e8 := by rw [he8]; exact IntWalk.i64_in _ (by omega)
            have q5 : IntKind.i64.wrap (z - (n1 : Int)) = y9 := by rw [hy9, hz.out]; exact (IntWalk.i64_in _ (by omega)).trans (by omega)
            have q6 : IntKind.i64.wrap (e8 - y9) = e9 := by rw [he8, he9, hy9]; exact IntWalk.i64_in _ (by omega)

            rw [← he9] at hx
            have v0 : wr.cell? ⟨b, f + (n1 + q) * 7, none⟩ = some (.int .i64 (e9)) := by have := hcell ((n1 + q) * 7 + 0) _ (acVals_get' hx 0 (by omega)); simpa using this
            have v1 : wr.cell? ⟨b, f + (n1 + q) * 7 + 1, none⟩ = some (.int .i64 (0)) := by have := hcell ((n1 + q) * 7 + 1) _ (acVals_get' hx 1 (by omega)); rw [← Nat.add_assoc] at this; exact this
            have v2 : wr.cell? ⟨b, f + (n1 + q) * 7 + 2, none⟩ = some (.int .i64 (0)) := by have := hcell ((n1 + q) * 7 + 2) _ (acVals_get' hx 2 (by omega)); rw [← Nat.add_assoc] at this; exact this
            have v3 : wr.cell? ⟨b, f + (n1 + q) * 7 + 3, none⟩ = some (.int .i64 (0)) := by have := hcell ((n1 + q) * 7 + 3) _ (acVals_get' hx 3 (by omega)); rw [← Nat.add_assoc] at this; exact this
            have v4 : wr.cell? ⟨b, f + (n1 + q) * 7 + 4, none⟩ = some (.int .u64 (0)) := by have := hcell ((n1 + q) * 7 + 4) _ (acVals_get' hx 4 (by omega)); rw [← Nat.add_assoc] at this; exact this
            have v5 : wr.cell? ⟨b, f + (n1 + q) * 7 + 5, none⟩ = some (.int .u64 (0)) := by have := hcell ((n1 + q) * 7 + 5) _ (acVals_get' hx 5 (by omega)); rw [← Nat.add_assoc] at this; exact this
            have v6 : wr.cell? ⟨b, f + (n1 + q) * 7 + 6, none⟩ = some (.int .u64 (0)) := by have := hcell ((n1 + q) * 7 + 6) _ (acVals_get' hx 6 (by omega)); rw [← Nat.add_assoc] at this; exact this

            clear hcell hx he9 he8 hy9
            go_upto_region 9 with fail
            go_quiet (fail)
            have q1 := HQ1.out
            go_wp2_with fail
            go_roundg (gk - 1)
            case measure => omega
            case rel => exact ⟨n1 + q + 1, z + 1, by omega, rfl, by show _ = _; rw [hz.out]; omega, below_drewN hBr.out nq⟩
        · obtain rfl : j = n1 + 70 := by omega
          have e1 : ¬ z < (n1 : Int) + 70 := by rw [hz.out]; omega
          have e1' : decide (z < (n1 : Int) + 70) = false := decide_eq_false e1
          have HW := hBr
          obtain ⟨V1, rfl⟩ : ∃ V : World, V = wr := ⟨_, rfl⟩
          obtain ⟨g1, rfl⟩ : ∃ g : Nat, g = gk := ⟨_, rfl⟩
          go_wp2_with fail
          go_loopg [9] (n2 + 70) (fun gk i wr => ∃ (j : Nat) (z : Int), j + gk = n2 + 70 ∧ i = .int .i64 z ∧ Hid (z = j) ∧ Hid (Below w9.heap.size w9 wr))
          case atStart => exact ⟨0, 0, by omega, rfl, rfl, HW⟩
          case round =>
            obtain ⟨j, z, hj, rfl, hz, hBr⟩ := hrel
            have hbw : Below w.heap.size w wr := HB.out.trans (hBr.out.mono HB.out.size)
            have hA9 := HA.out.below hBr.out HA.out.lt
            have hD9 := HD.out.below hBr.out HD.out.lt
            have r2 : wr.cell? ⟨w.heap.size, 2, none⟩ = some (.slice a2 (n2 + 70) k2) := hA9.cell rfl
            have s2 : wr.cell? ⟨w.heap.size + 1, 2, none⟩ = some (.slice b2 n2 c2) := hD9.cell rfl

            have hla := hA9.lt
            have hld := hD9.lt
            clear hA9 hD9
            by_cases hlt : j < n2 + 70
            · have e1 : z < (n2 : Int) + 70 := by rw [hz.out]; omega
              have e1' : decide (z < (n2 : Int) + 70) = true := decide_eq_true e1
              have e0 : (0 : Int) ≤ z := by rw [hz.out]; omega
              have e3 : z.toNat = j := by rw [hz.out]; rfl
              obtain ⟨b, f, hA, hbl, hcell⟩ := (HS2.out.below hbw).2 (by omega)
              have hbe : b < wr.heap.size := by have := hbw.size; omega
              subst hA
              have q1 : IntKind.i64.wrap (z + 1) = z + 1 := by rw [hz.out]; exact IntWalk.i64_in _ (by omega)
              have HQ1 := Lib.hid q1
              clear q1
              by_cases hlo : j < n2
              · have d0 : z < (n2 : Int) := by rw [hz.out]; omega
                have d1 : decide (z < (n2 : Int)) = true := decide_eq_true d0
                have d2 : ¬ (n2 : Int) ≤ z := by omega
                have d3 : decide ((n2 : Int) ≤ z) = false := decide_eq_false d2
                have hx := sp_s_lo (M := M) hlo
                obtain ⟨e9, he9⟩ : ∃ e9, e9 = M + (j : Int) := ⟨_, rfl⟩
                obtain ⟨e8, he8⟩ : ∃ e8, e8 = -M := ⟨_, rfl⟩
                have q6 : IntKind.i64.wrap (M + z) = e9 := by rw [he9, hz.out]; exact IntWalk.i64_in _ (by omega)
                have q7 : IntKind.i64.wrap (-M) = e8 := by rw [he8]; exact IntWalk.i64_in _ (by omega)

                rw [← he9, ← he8] at hx
                have v0 : wr.cell? ⟨b, f + j * 5, none⟩ = some (.int .i64 (e9)) := by have := hcell (j * 5 + 0) _ (sfVals_get hx 0 (by omega)); simpa using this
                have v1 : wr.cell? ⟨b, f + j * 5 + 1, none⟩ = some (.int .i64 (0)) := by have := hcell (j * 5 + 1) _ (sfVals_get hx 1 (by omega)); rw [← Nat.add_assoc] at this; exact this
                have v2 : wr.cell? ⟨b, f + j * 5 + 2, none⟩ = some (.int .i64 (e8)) := by have := hcell (j * 5 + 2) _ (sfVals_get hx 2 (by omega)); rw [← Nat.add_assoc] at this; exact this
                have v3 : wr.cell? ⟨b, f + j * 5 + 3, none⟩ = some (.int .i64 (0)) := by have := hcell (j * 5 + 3) _ (sfVals_get hx 3 (by omega)); rw [← Nat.add_assoc] at this; exact this
                have v4 : wr.cell? ⟨b, f + j * 5 + 4, none⟩ = some (.int .i64 (0)) := by have := hcell (j * 5 + 4) _ (sfVals_get hx 4 (by omega)); rw [← Nat.add_assoc] at this; exact this

                clear hcell hx he9 he8 
                go_upto_region 14 with fail
                go_quiet (fail)
                have q1 := HQ1.out
                go_wp2_with fail
                go_roundg (gk - 1)
                case measure => omega
                case rel => exact ⟨j + 1, z + 1, by omega, rfl, by show _ = _; rw [hz.out]; omega, below_drewN hBr.out nq⟩
              · obtain ⟨q, rfl⟩ : ∃ q, j = n2 + q := ⟨j - n2, by omega⟩
                have d0 : ¬ z < (n2 : Int) := by rw [hz.out]; omega
                have d1 : decide (z < (n2 : Int)) = false := decide_eq_false d0
                have d2 : (n2 : Int) ≤ z := by rw [hz.out]; omega
                have d3 : decide ((n2 : Int) ≤ z) = true := decide_eq_true d2
                have hx := sp_s_hi (M := M) (n := n2) (q := q) (by omega)
                obtain ⟨e9, he9⟩ : ∃ e9, e9 = -M - (q : Int) := ⟨_, rfl⟩
                obtain ⟨e8, he8⟩ : ∃ e8, e8 = -M := ⟨_, rfl⟩
                obtain ⟨y9, hy9⟩ : ∃ y9, y9 = (q : Int) := ⟨_, rfl⟩
                have q7 : IntKind.i64.wrap (-M) = e8 := by rw [he8]; exact IntWalk.i64_in _ (by omega)
                have q5 : IntKind.i64.wrap (z - (n2 : Int)) = y9 := by rw [hy9, hz.out]; exact (IntWalk.i64_in _ (by omega)).trans (by omega)
                have q6 : IntKind.i64.wrap (e8 - y9) = e9 := by rw [he8, he9, hy9]; exact IntWalk.i64_in _ (by omega)

                rw [← he9] at hx
                have v0 : wr.cell? ⟨b, f + (n2 + q) * 5, none⟩ = some (.int .i64 (e9)) := by have := hcell ((n2 + q) * 5 + 0) _ (sfVals_get hx 0 (by omega)); simpa using this
                have v1 : wr.cell? ⟨b, f + (n2 + q) * 5 + 1, none⟩ = some (.int .i64 (0)) := by have := hcell ((n2 + q) * 5 + 1) _ (sfVals_get hx 1 (by omega)); rw [← Nat.add_assoc] at this; exact this
                have v2 : wr.cell? ⟨b, f + (n2 + q) * 5 + 2, none⟩ = some (.int .i64 (0)) := by have := hcell ((n2 + q) * 5 + 2) _ (sfVals_get hx 2 (by omega)); rw [← Nat.add_assoc] at this; exact this
                have v3 : wr.cell? ⟨b, f + (n2 + q) * 5 + 3, none⟩ = some (.int .i64 (0)) := by have := hcell ((n2 + q) * 5 + 3) _ (sfVals_get hx 3 (by omega)); rw [← Nat.add_assoc] at this; exact this
                have v4 : wr.cell? ⟨b, f + (n2 + q) * 5 + 4, none⟩ = some (.int .i64 (0)) := by have := hcell ((n2 + q) * 5 + 4) _ (sfVals_get hx 4 (by omega)); rw [← Nat.add_assoc] at this; exact this

                clear hcell hx he9 he8 hy9
                go_upto_region 14 with fail
                go_quiet (fail)
                have q1 := HQ1.out
                go_wp2_with fail
                go_roundg (gk - 1)
                case measure => omega
                case rel => exact ⟨n2 + q + 1, z + 1, by omega, rfl, by show _ = _; rw [hz.out]; omega, below_drewN hBr.out nq⟩
            · obtain rfl : j = n2 + 70 := by omega
              have e1 : ¬ z < (n2 : Int) + 70 := by rw [hz.out]; omega
              have e1' : decide (z < (n2 : Int) + 70) = false := decide_eq_false e1
              have HW := hBr
              obtain ⟨V2, rfl⟩ : ∃ V : World, V = wr := ⟨_, rfl⟩
              obtain ⟨g2, rfl⟩ : ∃ g : Nat, g = gk := ⟨_, rfl⟩
              go_wp2_with fail
              go_loopg [10] (n3 + 70) (fun gk i wr => ∃ (j : Nat) (z : Int), j + gk = n3 + 70 ∧ i = .int .i64 z ∧ Hid (z = j) ∧ Hid (Below w9.heap.size w9 wr))
              case atStart => exact ⟨0, 0, by omega, rfl, rfl, HW⟩
              case round =>
                obtain ⟨j, z, hj, rfl, hz, hBr⟩ := hrel
                have hbw : Below w.heap.size w wr := HB.out.trans (hBr.out.mono HB.out.size)
                have hA9 := HA.out.below hBr.out HA.out.lt
                have hD9 := HD.out.below hBr.out HD.out.lt
                have r3 : wr.cell? ⟨w.heap.size, 3, none⟩ = some (.slice a3 (n3 + 70) k3) := hA9.cell rfl
                have s3 : wr.cell? ⟨w.heap.size + 1, 3, none⟩ = some (.slice b3 n3 c3) := hD9.cell rfl

                have hla := hA9.lt
                have hld := hD9.lt
                clear hA9 hD9
                by_cases hlt : j < n3 + 70
                · have e1 : z < (n3 : Int) + 70 := by rw [hz.out]; omega
                  have e1' : decide (z < (n3 : Int) + 70) = true := decide_eq_true e1
                  have e0 : (0 : Int) ≤ z := by rw [hz.out]; omega
                  have e3 : z.toNat = j := by rw [hz.out]; rfl
                  obtain ⟨b, f, hA, hbl, hcell⟩ := (HS3.out.below hbw).2 (by omega)
                  have hbe : b < wr.heap.size := by have := hbw.size; omega
                  subst hA
                  have q1 : IntKind.i64.wrap (z + 1) = z + 1 := by rw [hz.out]; exact IntWalk.i64_in _ (by omega)
                  have HQ1 := Lib.hid q1
                  clear q1
                  by_cases hlo : j < n3
                  · have d0 : z < (n3 : Int) := by rw [hz.out]; omega
                    have d1 : decide (z < (n3 : Int)) = true := decide_eq_true d0
                    have d2 : ¬ (n3 : Int) ≤ z := by omega
                    have d3 : decide ((n3 : Int) ≤ z) = false := decide_eq_false d2
                    have hx := sp_u_lo (M := M) hlo
                    obtain ⟨e9, he9⟩ : ∃ e9, e9 = M + (j : Int) := ⟨_, rfl⟩
                    obtain ⟨y9, hy9⟩ : ∃ y9, y9 = (j : Int) := ⟨_, rfl⟩
                    obtain ⟨e8, he8⟩ : ∃ e8, e8 = M := ⟨_, rfl⟩
                    have q5 : IntKind.u64.wrap z = y9 := by rw [hy9, hz.out]; exact IntWalk.u64_in _ (by omega)
                    have q7 : IntKind.u64.wrap M = e8 := by rw [he8]; exact IntWalk.u64_in _ (by omega)
                    have q6 : IntKind.u64.wrap (e8 + y9) = e9 := by rw [he8, he9, hy9]; exact IntWalk.u64_in _ (by omega)

                    rw [← he9] at hx
                    have v0 : wr.cell? ⟨b, f + j, none⟩ = some (.int .u64 (e9)) := hcell (j) _ (u64s_at9 hx)

                    clear hcell hx he9 he8 hy9
                    go_upto_region 19 with fail
                    
                    have q1 := HQ1.out
                    go_wp2_with fail
                    go_roundg (gk - 1)
                    case measure => omega
                    case rel => exact ⟨j + 1, z + 1, by omega, rfl, by show _ = _; rw [hz.out]; omega, hBr⟩
                  · obtain ⟨q, rfl⟩ : ∃ q, j = n3 + q := ⟨j - n3, by omega⟩
                    have d0 : ¬ z < (n3 : Int) := by rw [hz.out]; omega
                    have d1 : decide (z < (n3 : Int)) = false := decide_eq_false d0
                    have d2 : (n3 : Int) ≤ z := by rw [hz.out]; omega
                    have d3 : decide ((n3 : Int) ≤ z) = true := decide_eq_true d2
                    have hx := sp_u_hi (M := M) (n := n3) (q := q) (by omega)
                    obtain ⟨e9, he9⟩ : ∃ e9, e9 = M + 1000000 := ⟨_, rfl⟩
                    obtain ⟨e8, he8⟩ : ∃ e8, e8 = M := ⟨_, rfl⟩
                    have q7 : IntKind.u64.wrap M = e8 := by rw [he8]; exact IntWalk.u64_in _ (by omega)
                    have q6 : IntKind.u64.wrap (e8 + 1000000) = e9 := by rw [he8, he9]; exact IntWalk.u64_in _ (by omega)

                    rw [← he9] at hx
                    have v0 : wr.cell? ⟨b, f + (n3 + q), none⟩ = some (.int .u64 (e9)) := hcell ((n3 + q)) _ (u64s_at9 hx)

                    clear hcell hx he9 he8 
                    go_upto_region 19 with fail
                    
                    have q1 := HQ1.out
                    go_wp2_with fail
                    go_roundg (gk - 1)
                    case measure => omega
                    case rel => exact ⟨n3 + q + 1, z + 1, by omega, rfl, by show _ = _; rw [hz.out]; omega, hBr⟩
                · obtain rfl : j = n3 + 70 := by omega
                  have e1 : ¬ z < (n3 : Int) + 70 := by rw [hz.out]; omega
                  have e1' : decide (z < (n3 : Int) + 70) = false := decide_eq_false e1
                  have HW := hBr
                  obtain ⟨V3, rfl⟩ : ∃ V : World, V = wr := ⟨_, rfl⟩
                  obtain ⟨g3, rfl⟩ : ∃ g : Nat, g = gk := ⟨_, rfl⟩
                  go_wp2_with fail
                  go_ret
                  exact ⟨rfl, HB.out.trans (HW.out.mono HB.out.size)⟩
end Go.Proofs.Ytjnmlgfkiebkgaa
