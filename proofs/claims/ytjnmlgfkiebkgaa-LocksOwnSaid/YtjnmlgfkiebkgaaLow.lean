/-
  LocksOwn's law.
-/
import Derived.Test.YtjnmlgfkiebkgaaLsl
import Derived.Test.YtjnmlgfkiebkgaaLpa
import Derived.Test.YtjnmlgfkiebkgaaLom
import Derived.Test.YtjnmlgfkiebkgaaLss
namespace Go.Proofs.Ytjnmlgfkiebkgaa
open Go.RowKit
set_option linter.unusedVariables false
set_option linter.unusedSimpArgs false

theorem range_kd {T k : Int} (h : rangeB T k 1 7 = true) : 1 ≤ k ∧ k ≤ 7 := by
  unfold rangeB at h
  simp at h
  omega
/-- a run in a box of its own, its rows between lo and hi -/
structure RunB (W : World) (g lo hi : Nat) (C : List Cal) (T : List Ac) (U : List Int) (pc pt ps pu : Option Addr) (kc kt ks ku : Nat) : Prop where
  bx : Blk W g 39 [.slice pc C.length kc, .slice pt T.length kt, .slice ps 0 ks, .slice pu U.length ku]
  oc : W.ownsRow lo 62 9 (.slice pc C.length kc) C.length (calVals C)
  ot : W.ownsRow lo 66 7 (.slice pt T.length kt) T.length (acVals T)
  os : W.ownsRow lo 94 5 (.slice ps 0 ks) 0 (sfVals [])
  ou : W.ownsRow lo 34 1 (.slice pu U.length ku) U.length (u64s U)
  hc : ∀ r, (Value.slice pc C.length kc).ownBlock = some r → r < hi
  ht : ∀ r, (Value.slice pt T.length kt).ownBlock = some r → r < hi
  hs : ∀ r, (Value.slice ps 0 ks).ownBlock = some r → r < hi
  hu : ∀ r, (Value.slice pu U.length ku).ownBlock = some r → r < hi
section
variable {W W' : World} {g lo hi : Nat} {C : List Cal} {T : List Ac} {U : List Int} {pc pt ps pu : Option Addr} {kc kt ks ku : Nat}
theorem RunB.kp (h : RunB W g lo hi C T U pc pt ps pu kc kt ks ku) {S : Nat → Prop} (k : Kp S W W') (hS : ∀ r, lo ≤ r → r < hi → ¬ S r) (hg : ¬ S g) : RunB W' g lo hi C T U pc pt ps pu kc kt ks ku :=
  ⟨k.blk h.bx hg, k.own h.oc fun r e => hS r (h.oc.lt r e).1 (h.hc r e), k.own h.ot fun r e => hS r (h.ot.lt r e).1 (h.ht r e), k.own h.os fun r e => hS r (h.os.lt r e).1 (h.hs r e), k.own h.ou fun r e => hS r (h.ou.lt r e).1 (h.hu r e), h.hc, h.ht, h.hs, h.hu⟩
theorem RunB.below (h : RunB W g lo hi C T U pc pt ps pu kc kt ks ku) (k : Below W.heap.size W W') : RunB W' g lo hi C T U pc pt ps pu kc kt ks ku :=
  ⟨h.bx.below k h.bx.lt, h.oc.below k, h.ot.below k, h.os.below k, h.ou.below k, h.hc, h.ht, h.hs, h.hu⟩
theorem RunB.made {W1 : World} (hc : W1.ownsRow lo 62 9 (.slice pc C.length kc) C.length (calVals C)) (ht : W1.ownsRow lo 66 7 (.slice pt T.length kt) T.length (acVals T)) (hs : W1.ownsRow lo 94 5 (.slice ps 0 ks) 0 (sfVals [])) (hu : W1.ownsRow lo 34 1 (.slice pu U.length ku) U.length (u64s U)) :
    RunB (W1.alloc (.cells #[.slice pc C.length kc, .slice pt T.length kt, .slice ps 0 ks, .slice pu U.length ku] 39)) W1.heap.size lo W1.heap.size C T U pc pt ps pu kc kt ks ku :=
  ⟨Blk.new _ _ _, hc.alloc _, ht.alloc _, hs.alloc _, hu.alloc _, fun r e => (hc.lt r e).2, fun r e => (ht.lt r e).2, fun r e => (hs.lt r e).2, fun r e => (hu.lt r e).2⟩
end
/-- a run spoilt, in a box of its own, its rows in blocks of a kind -/
structure SpB (W : World) (g : Nat) (Z : Nat → Prop) (M : Int) (n0 n1 n3 : Nat) (pc pt ps pu : Option Addr) (kc kt ks ku : Nat) : Prop where
  bx : Blk W g 39 [.slice pc (n0 + 70) kc, .slice pt (n1 + 70) kt, .slice ps 70 ks, .slice pu (n3 + 70) ku]
  oc : W.ownsRow 0 62 9 (.slice pc (n0 + 70) kc) (n0 + 70) (calVals (sp_c M n0))
  ot : W.ownsRow 0 66 7 (.slice pt (n1 + 70) kt) (n1 + 70) (acVals (sp_t M n1))
  os : W.ownsRow 0 94 5 (.slice ps 70 ks) 70 (sfVals (sp_s M 0))
  ou : W.ownsRow 0 34 1 (.slice pu (n3 + 70) ku) (n3 + 70) (u64s (sp_u M n3))
  hc : ∀ r, (Value.slice pc (n0 + 70) kc).ownBlock = some r → Z r
  ht : ∀ r, (Value.slice pt (n1 + 70) kt).ownBlock = some r → Z r
  hs : ∀ r, (Value.slice ps 70 ks).ownBlock = some r → Z r
  hu : ∀ r, (Value.slice pu (n3 + 70) ku).ownBlock = some r → Z r
section
variable {W W' : World} {g : Nat} {Z : Nat → Prop} {M : Int} {n0 n1 n3 : Nat} {pc pt ps pu : Option Addr} {kc kt ks ku : Nat}
theorem SpB.kp (h : SpB W g Z M n0 n1 n3 pc pt ps pu kc kt ks ku) {S : Nat → Prop} (k : Kp S W W') (hS : ∀ r, r < W.heap.size → Z r → ¬ S r) (hg : ¬ S g) : SpB W' g Z M n0 n1 n3 pc pt ps pu kc kt ks ku :=
  ⟨k.blk h.bx hg, k.own h.oc fun r e => hS r (h.oc.lt r e).2 (h.hc r e), k.own h.ot fun r e => hS r (h.ot.lt r e).2 (h.ht r e), k.own h.os fun r e => hS r (h.os.lt r e).2 (h.hs r e), k.own h.ou fun r e => hS r (h.ou.lt r e).2 (h.hu r e), h.hc, h.ht, h.hs, h.hu⟩
theorem SpB.below (h : SpB W g Z M n0 n1 n3 pc pt ps pu kc kt ks ku) (k : Below W.heap.size W W') : SpB W' g Z M n0 n1 n3 pc pt ps pu kc kt ks ku :=
  ⟨h.bx.below k h.bx.lt, h.oc.below k, h.ot.below k, h.os.below k, h.ou.below k, h.hc, h.ht, h.hs, h.hu⟩
end
theorem spot_zero {n0 n1 n3 : Nat} {w w' : World} {B : Nat} {S : Nat → Prop} {M : Int} {a0 a1 a2 a3 : Option Addr} {k0 k1 k2 k3 : Nat} (h : SpR w B S (sp_c M n0) (sp_t M n1) (sp_s M 0) (sp_u M n3) (.slice a0 (n0 + 70) k0) (.slice a1 (n1 + 70) k1) (.slice a2 (0 + 70) k2) (.slice a3 (n3 + 70) k3) w') :
    SpB (w'.alloc (.cells #[.slice a0 (n0 + 70) k0, .slice a1 (n1 + 70) k1, .slice a2 70 k2, .slice a3 (n3 + 70) k3] 39)) w'.heap.size S M n0 n1 n3 a0 a1 a2 a3 k0 k1 k2 k3 := by
  have hc := h.oc
  have ht := h.ot
  have hs := h.os
  have hu := h.ou
  rw [sp_c_len] at hc
  rw [sp_t_len] at ht
  rw [sp_s_len] at hs
  rw [sp_u_len] at hu
  exact ⟨Blk.new _ _ _, own_low9 (hc.alloc _) (Nat.zero_le _), own_low9 (ht.alloc _) (Nat.zero_le _), own_low9 (hs.alloc _) (Nat.zero_le _), own_low9 (hu.alloc _) (Nat.zero_le _), h.sc, h.st, h.ss, h.su⟩
set_option maxRecDepth 100000 in
set_option maxHeartbeats 16000000 in
theorem law_own (T0 k0 : Int) (ms0 : List Mo) (A : Option Addr) (n c : Nat) (hl : ms0.length = n) (w : World) (h : Sl w w.heap.size 4 A n (moVals ms0)) (hn : n ≤ c ∧ c ≤ maxLen) (hA : n = 0 ∨ ∃ b o, A = some ⟨b, o, none⟩) (hop : ∀ v ∈ ms0, -9223372036854775808 ≤ v.op ∧ v.op ≤ 9223372036854775807) :
    Calls Try.prog 8 #[.agg #[.int .i64 T0, .int .i64 k0], .slice A n c] w (BoolR true w) := by
  obtain ⟨i1, hi1, hi1z, hi1s, hi1b⟩ := info_parts info_sty
  obtain ⟨T, hT⟩ : ∃ T, T = fitT T0 k0 := ⟨_, rfl⟩
  obtain ⟨k, hk⟩ : ∃ k, k = fitK T0 k0 := ⟨_, rfl⟩
  have hrng := fit_range T0 k0
  rw [← hT, ← hk] at hrng
  have hF : Hid (∀ w, Calls Try.prog 23 #[.agg #[.int .i64 T0, .int .i64 k0], .slice A n c] w (fun e w' => e = .returned (.tuple #[.agg #[.int .i64 T, .int .i64 k], .slice A (min n 65536) c]) ∧ Below w.heap.size w w')) := fun w => by
    have h := fit_any T0 k0 A n c hA hn w
    unfold FitR at h
    rw [← hT, ← hk] at h
    exact h
  obtain ⟨N, hN⟩ : ∃ N, N = min n 65536 := ⟨_, rfl⟩
  rw [← hN] at hF
  obtain ⟨ms, hms⟩ : ∃ ms, ms = ms0.take N := ⟨_, rfl⟩
  have hmsl : ms.length = N := by rw [hms, List.length_take]; omega
  have hsl : Hid (∀ W, Below w.heap.size w W → Sl W W.heap.size 4 A N (moVals ms)) := fun W hW => by
    rw [hms]
    exact ((h.tak hl (by omega)).below hW).up hW.size
  have hkr : 1 ≤ k ∧ k ≤ 7 := range_kd hrng
  have hop2 : Hid (∀ v ∈ ms, -9223372036854775808 ≤ v.op ∧ v.op ≤ 9223372036854775807) := fun v hv => hop v (by rw [hms] at hv; exact List.mem_of_mem_take hv)
  have hN2 : N ≤ 65536 := by omega
  have hP : Hid (∀ W, Below w.heap.size w W → Calls Try.prog 24 #[.agg #[.int .i64 T, .int .i64 k], .slice A N c] W (PlayR ((mc0 k T).moves_ ms) W)) := fun W hW => play_fit hrng ms A N c hmsl W (hsl.out W hW) hN2 hop2.out
  have hwl0 : (mc0 k T).words.length ≤ 100 := (lkWords_len hrng).2
  have HStk : Hid (rangeB T k 1 7 = true) := hrng
  clear h hop hA hn hT hk hN hms
  go_enter Try.func8, Try.ntmps8
  go_upto_region 1 with fail
  have hb0 : Below w.heap.size w (w.alloc (.cells #[.int .i64 T0, .int .i64 k0] 24)) := (Below.refl _ _).alloc (Nat.le_refl _) _
  have hr0 : Blk (w.alloc (.cells #[.int .i64 T0, .int .i64 k0] 24)) w.heap.size 24 [.int .i64 T0, .int .i64 k0] := Blk.new _ _ _
  generalize w.alloc (.cells #[.int .i64 T0, .int .i64 k0] 24) = w0 at hb0 hr0 ⊢
  have hrl := hr0.lt
  have d0 : w0.cell? ⟨w.heap.size, 0, none⟩ = some (.int .i64 T0) := hr0.cell rfl
  have d1 : w0.cell? ⟨w.heap.size, 1, none⟩ = some (.int .i64 k0) := hr0.cell rfl
  have HB0 := Lib.hid hb0
  have HR0 := Lib.hid hr0
  clear hb0 hr0
  go_wp2_with fail
  refine (hF.out _).mono ?_
  rintro e w1 ⟨rfl, hb1⟩
  have hr1 := HR0.out.below hb1 hrl
  have hl1 := hr1.lt
  have HB1 := Lib.hid (HB0.out.trans (hb1.mono (by omega)))
  have HR1 := Lib.hid hr1
  have d0 : w1.cell? ⟨w.heap.size, 0, none⟩ = some (.int .i64 T0) := hr1.cell rfl
  have d1 : w1.cell? ⟨w.heap.size, 1, none⟩ = some (.int .i64 k0) := hr1.cell rfl
  have f0 := hr1.frozen 0
  have f1 := hr1.frozen 1
  clear hb1 hr1
  go_upto_region 2 with fail
  have hb2 : Below w.heap.size w ((w1.setCell ⟨w.heap.size, 0, none⟩ (.int .i64 T)).setCell ⟨w.heap.size, 1, none⟩ (.int .i64 k)) := (HB1.out.setCell (p := ⟨w.heap.size, 0, none⟩) (Nat.le_refl _) _).setCell (p := ⟨w.heap.size, 1, none⟩) (Nat.le_refl _) _
  have hr2 : Blk ((w1.setCell ⟨w.heap.size, 0, none⟩ (.int .i64 T)).setCell ⟨w.heap.size, 1, none⟩ (.int .i64 k)) w.heap.size 24 [.int .i64 T, .int .i64 k] := (HR1.out.set_ 0 _).set_ 1 _
  generalize (w1.setCell ⟨w.heap.size, 0, none⟩ (.int .i64 T)).setCell ⟨w.heap.size, 1, none⟩ (.int .i64 k) = w2 at hb2 hr2 ⊢
  have hl2 := hr2.lt
  have d0 : w2.cell? ⟨w.heap.size, 0, none⟩ = some (.int .i64 T) := hr2.cell rfl
  have d1 : w2.cell? ⟨w.heap.size, 1, none⟩ = some (.int .i64 k) := hr2.cell rfl
  have HB2 := Lib.hid hb2
  have HR2 := Lib.hid hr2
  clear hb2 hr2
  go_wp2_with fail
  refine (hP.out w2 HB2.out).mono ?_
  obtain ⟨m, hm⟩ : ∃ m, m = (mc0 k T).moves_ ms := ⟨_, rfl⟩
  rw [← hm] at hP ⊢
  have hbn := moves_bnd ms (mc0 k T)
  rw [← hm, hmsl] at hbn
  have hcl : m.calls.length ≤ 65536 := by have h9 : m.calls.length ≤ 0 + N := hbn.2.2.1; omega
  have hll : m.log.length ≤ 65536 := by have h9 : m.log.length ≤ 0 + N := hbn.2.1; omega
  have hwl : m.words.length ≤ 100 := by have h9 := hbn.1; omega
  clear hm hbn
  obtain ⟨l, hl⟩ : ∃ l, l = rstays m.calls := ⟨_, rfl⟩
  have hll2 : (stays0 m.calls).length = l.length := by rw [hl, rstays_len]
  have hlc : l.length ≤ m.calls.length := by rw [← hll2]; exact stays0_len m.calls
  have HSt : Hid (∀ (W : World) (g lo hi : Nat) (Pc Pt Ps Pu : Option Addr) (Pkc Pkt Pks Pku : Nat), RunB W g lo hi m.calls m.log m.words Pc Pt Ps Pu Pkc Pkt Pks Pku → m.calls.length ≤ Pkc → Calls Try.prog 17 #[.agg #[.int .i64 T, .int .i64 k], .agg #[.slice Pc m.calls.length Pkc, .slice Pt m.log.length Pkt, .slice Ps 0 Pks, .slice Pu m.words.length Pku]] W (StaysR l.length l W)) := Lib.hid fun W g lo hi Pc Pt Ps Pu Pkc Pkt Pks Pku hR hk9 => by
    have hcap := own_cap hR.oc
    have h9 := stays_any T k HStk.out m.calls Pc Pt Ps Pu Pkc m.log.length Pkt 0 Pks m.words.length Pku W (Sl.of_own hR.oc) (by omega) hcap (rstays m.calls) (sty_all m.calls (by omega))
    rw [hll2, ← hl] at h9
    exact h9
  have HSame : Hid (∀ (W : World) (g lo hi g' lo' hi' : Nat) (Pc Pt Ps Pu Qc Qt Qs Qu : Option Addr) (Pkc Pkt Pks Pku Qkc Qkt Qks Qku : Nat), RunB W g lo hi m.calls m.log m.words Pc Pt Ps Pu Pkc Pkt Pks Pku → RunB W g' lo' hi' m.calls m.log m.words Qc Qt Qs Qu Qkc Qkt Qks Qku → Calls Try.prog 19 #[.agg #[.slice Pc m.calls.length Pkc, .slice Pt m.log.length Pkt, .slice Ps 0 Pks, .slice Pu m.words.length Pku], .agg #[.slice Qc m.calls.length Qkc, .slice Qt m.log.length Qkt, .slice Qs 0 Qks, .slice Qu m.words.length Qku]] W (BoolR true W)) := Lib.hid fun W g lo hi g' lo' hi' Pc Pt Ps Pu Qc Qt Qs Qu Pkc Pkt Pks Pku Qkc Qkt Qks Qku h1 h2 =>
    samerun_any m.calls m.log [] m.words Pc Pt Ps Pu Qc Qt Qs Qu Pkc Pkt Pks Pku Qkc Qkt Qks Qku W (Sl.of_own h1.oc) (Sl.of_own h1.ot) (Sl.of_own h1.os) (Sl.of_own h1.ou) (Sl.of_own h2.oc) (Sl.of_own h2.ot) (Sl.of_own h2.os) (Sl.of_own h2.ou) ⟨by omega, by omega, by simp, by omega⟩
  have HCop : Hid (∀ (W : World) (g lo hi : Nat) (Pc Pt Ps Pu : Option Addr) (Pkc Pkt Pks Pku : Nat), RunB W g lo hi m.calls m.log m.words Pc Pt Ps Pu Pkc Pkt Pks Pku → Calls Try.prog 16 #[.agg #[.slice Pc m.calls.length Pkc, .slice Pt m.log.length Pkt, .slice Ps 0 Pks, .slice Pu m.words.length Pku]] W (CopR m.calls m.log [] m.words W)) := Lib.hid fun W g lo hi Pc Pt Ps Pu Pkc Pkt Pks Pku h1 =>
    copyrun_any m.calls m.log [] m.words Pc Pt Ps Pu Pkc Pkt Pks Pku W (Sl.of_own h1.oc) (Sl.of_own h1.ot) (Sl.of_own h1.os) (Sl.of_own h1.ou) ⟨by omega, by omega, by simp, by omega⟩
  have HSpo : Hid (∀ (M : Int) (_ : 0 < M ∧ M ≤ 2000) (W : World) (g lo hi : Nat) (Pc Pt Ps Pu : Option Addr) (Pkc Pkt Pks Pku : Nat), RunB W g lo hi m.calls m.log m.words Pc Pt Ps Pu Pkc Pkt Pks Pku → lo ≤ W.heap.size → Calls Try.prog 25 #[.agg #[.slice Pc m.calls.length Pkc, .slice Pt m.log.length Pkt, .slice Ps 0 Pks, .slice Pu m.words.length Pku], .int .i64 M] W (SpoR M lo m.calls.length m.log.length 0 m.words.length (.slice Pc m.calls.length Pkc) (.slice Pt m.log.length Pkt) (.slice Ps 0 Pks) (.slice Pu m.words.length Pku) W)) := Lib.hid fun M hM W g lo hi Pc Pt Ps Pu Pkc Pkt Pks Pku h1 h2 =>
    spoil_any M hM m.calls m.log [] m.words Pc Pt Ps Pu Pkc Pkt Pks Pku W lo h2 ⟨by omega, by omega, by simp, by omega⟩ h1.oc h1.ot h1.os h1.ou
  have HSpt : Hid (∀ (M : Int) (_ : 0 < M ∧ M ≤ 2000) (W : World) (g : Nat) (Z : Nat → Prop) (Pc Pt Ps Pu Qc Qt Qs Qu : Option Addr) (Pkc Pkt Pks Pku Qkc Qkt Qks Qku : Nat), SpB W g Z M m.calls.length m.log.length m.words.length Pc Pt Ps Pu Pkc Pkt Pks Pku → Calls Try.prog 26 #[.agg #[.slice Pc (m.calls.length + 70) Pkc, .slice Pt (m.log.length + 70) Pkt, .slice Ps 70 Pks, .slice Pu (m.words.length + 70) Pku], .agg #[.slice Qc m.calls.length Qkc, .slice Qt m.log.length Qkt, .slice Qs 0 Qks, .slice Qu m.words.length Qku], .int .i64 M] W (BoolR true W)) := Lib.hid fun M hM W g Z Pc Pt Ps Pu Qc Qt Qs Qu Pkc Pkt Pks Pku Qkc Qkt Qks Qku h1 =>
    spoilt_any M hM m.calls.length m.log.length 0 m.words.length Pc Pt Ps Pu Qc Qt Qs Qu Pkc Pkt Pks Pku Qkc Qkt Qks Qku W ⟨by omega, by omega, by omega, by omega⟩ (Sl.of_own h1.oc) (Sl.of_own h1.ot) (Sl.of_own h1.os) (Sl.of_own h1.ou)
  have HSty : Hid (∀ (W : World) (A B : Option Addr) (c d : Nat), Sl W W.heap.size 4 A l.length (styVals l) → Sl W W.heap.size 4 B l.length (styVals l) → Calls Try.prog 20 #[.slice A l.length c, .slice B l.length d] W (BoolR true W)) := Lib.hid fun W A B c d h1 h2 => sty_same l A B c d W h1 h2 (by omega)
  have hl65 : l.length ≤ 65536 := by omega
  clear hl hll2 hlc HStk
  have HOne : Hid (∀ l : List St, ∀ u ∈ styVals l, u.oneCell' = true) := Lib.hid fun l => flat_one (enc := fun x => styL x) (fun x => styL_one x) l
  clear d0 d1
  have hw2l := HB2.out.size
  have hw2r := HR2.out.lt
  rintro e w3 ⟨Pc, Pkc, Pt, Pkt, Pu, Pku, rfl, o1, o2, o3, hb3⟩
  have hb3' := hb3
  have HB3 := Lib.hid (HB2.out.trans (hb3.mono HB2.out.size))
  have HR3 := Lib.hid (HR2.out.below hb3 HR2.out.lt)
  have hz3 := hb3.size
  clear hb3 HB2 HR2 

  have hPk := (own_cap o1).1
  go_upto_region 3 with fail
  obtain ⟨Ps, Pks, hxs⟩ : ∃ (s : Option Addr) (q : Nat), s = none ∧ q = 0 := ⟨_, _, rfl, rfl⟩
  have hoP : w3.ownsRow w2.heap.size 94 5 (.slice Ps 0 Pks) 0 (sfVals []) := by rw [hxs.1, hxs.2]; exact World.ownsRow_nil _ _ _ _
  have hslP : Value.slice none 0 0 = .slice Ps 0 Pks := by rw [hxs.1, hxs.2]
  rw [hslP]
  clear hxs hslP
  obtain ⟨w4, hw4, HP4, hb4⟩ : ∃ W, W = w3.alloc (.cells #[.slice Pc m.calls.length Pkc, .slice Pt m.log.length Pkt, .slice Ps 0 Pks, .slice Pu m.words.length Pku] 39) ∧ Hid (RunB W w3.heap.size w2.heap.size w3.heap.size m.calls m.log m.words Pc Pt Ps Pu Pkc Pkt Pks Pku) ∧ Below w3.heap.size w3 W := ⟨_, rfl, RunB.made o1 o2 hoP o3, (Below.refl _ _).alloc (Nat.le_refl _) _⟩
  rw [← hw4]
  have hzz4 : w4.heap.size = w3.heap.size + 1 := by rw [hw4]; simp
  obtain ⟨gp, hgp⟩ : ∃ g, g = w3.heap.size := ⟨_, rfl⟩
  rw [← hgp] at HP4 ⊢
  have HGP := Lib.hid hgp
  have HZ4 := Lib.hid hzz4
  clear hw4 o1 o2 o3 hoP hgp hb3' hzz4
  have HB4 := Lib.hid (HB3.out.trans (hb4.mono HB3.out.size))
  have HR4 := Lib.hid (HR3.out.below hb4 HR3.out.lt)
  have hz4 := hb4.size
  clear hb4 HB3 HR3 
  have d0 : w4.cell? ⟨w.heap.size, 0, none⟩ = some (.int .i64 T) := HR4.out.cell rfl
  have d1 : w4.cell? ⟨w.heap.size, 1, none⟩ = some (.int .i64 k) := HR4.out.cell rfl
  go_wp2_with fail
  refine (hP.out w4 HB4.out).mono ?_
  clear d0 d1
  rintro e w5 ⟨Qc, Qkc, Qt, Qkt, Qu, Qku, rfl, o1, o2, o3, hb5⟩
  have hb5' := hb5
  have HB5 := Lib.hid (HB4.out.trans (hb5.mono HB4.out.size))
  have HR5 := Lib.hid (HR4.out.below hb5 HR4.out.lt)
  have hz5 := hb5.size
  have HP5 := Lib.hid (HP4.out.below hb5)
  clear hb5 HB4 HR4 HP4

  have hQk := (own_cap o1).1
  go_upto_region 4 with fail
  obtain ⟨Qs, Qks, hxs⟩ : ∃ (s : Option Addr) (q : Nat), s = none ∧ q = 0 := ⟨_, _, rfl, rfl⟩
  have hoQ : w5.ownsRow w4.heap.size 94 5 (.slice Qs 0 Qks) 0 (sfVals []) := by rw [hxs.1, hxs.2]; exact World.ownsRow_nil _ _ _ _
  have hslQ : Value.slice none 0 0 = .slice Qs 0 Qks := by rw [hxs.1, hxs.2]
  rw [hslQ]
  clear hxs hslQ
  obtain ⟨w6, hw6, HQ6, hb6⟩ : ∃ W, W = w5.alloc (.cells #[.slice Qc m.calls.length Qkc, .slice Qt m.log.length Qkt, .slice Qs 0 Qks, .slice Qu m.words.length Qku] 39) ∧ Hid (RunB W w5.heap.size w4.heap.size w5.heap.size m.calls m.log m.words Qc Qt Qs Qu Qkc Qkt Qks Qku) ∧ Below w5.heap.size w5 W := ⟨_, rfl, RunB.made o1 o2 hoQ o3, (Below.refl _ _).alloc (Nat.le_refl _) _⟩
  rw [← hw6]
  have hzz6 : w6.heap.size = w5.heap.size + 1 := by rw [hw6]; simp
  obtain ⟨gq, hgq⟩ : ∃ g, g = w5.heap.size := ⟨_, rfl⟩
  rw [← hgq] at HQ6 ⊢
  have HGQ := Lib.hid hgq
  have HZ6 := Lib.hid hzz6
  clear hw6 o1 o2 o3 hoQ hgq hb5' hzz6
  have HB6 := Lib.hid (HB5.out.trans (hb6.mono HB5.out.size))
  have HR6 := Lib.hid (HR5.out.below hb6 HR5.out.lt)
  have hz6 := hb6.size
  have HP6 := Lib.hid (HP5.out.below hb6)
  clear hb6 HB5 HR5 HP5
  have pb0 : w6.cell? ⟨gp, 0, none⟩ = some (.slice Pc m.calls.length Pkc) := HP6.out.bx.cell rfl
  have pb1 : w6.cell? ⟨gp, 1, none⟩ = some (.slice Pt m.log.length Pkt) := HP6.out.bx.cell rfl
  have pb2 : w6.cell? ⟨gp, 2, none⟩ = some (.slice Ps 0 Pks) := HP6.out.bx.cell rfl
  have pb3 : w6.cell? ⟨gp, 3, none⟩ = some (.slice Pu m.words.length Pku) := HP6.out.bx.cell rfl
  have qb0 : w6.cell? ⟨gq, 0, none⟩ = some (.slice Qc m.calls.length Qkc) := HQ6.out.bx.cell rfl
  have qb1 : w6.cell? ⟨gq, 1, none⟩ = some (.slice Qt m.log.length Qkt) := HQ6.out.bx.cell rfl
  have qb2 : w6.cell? ⟨gq, 2, none⟩ = some (.slice Qs 0 Qks) := HQ6.out.bx.cell rfl
  have qb3 : w6.cell? ⟨gq, 3, none⟩ = some (.slice Qu m.words.length Qku) := HQ6.out.bx.cell rfl
  go_wp2_with fail
  refine (HSame.out _ _ _ _ _ _ _ _ _ _ _ _ _ _ _ _ _ _ _ _ _ _ _ HP6.out HQ6.out).mono ?_
  rintro e w7 ⟨rfl, hb7⟩
  clear pb0 pb1 pb2 pb3 qb0 qb1 qb2 qb3
  have HB7 := Lib.hid (HB6.out.trans (hb7.mono HB6.out.size))
  have HR7 := Lib.hid (HR6.out.below hb7 HR6.out.lt)
  have hz7 := hb7.size
  have HP7 := Lib.hid (HP6.out.below hb7)
  have HQ7 := Lib.hid (HQ6.out.below hb7)
  clear hb7 HB6 HR6 HP6 HQ6
  go_wp2_with fail
  refine (awake_any _).mono ?_
  rintro e w8 ⟨rfl, hb8⟩
  have HB8 := Lib.hid (HB7.out.trans (hb8.mono HB7.out.size))
  have HR8 := Lib.hid (HR7.out.below hb8 HR7.out.lt)
  have hz8 := hb8.size
  have HP8 := Lib.hid (HP7.out.below hb8)
  have HQ8 := Lib.hid (HQ7.out.below hb8)
  clear hb8 HB7 HR7 HP7 HQ7
  have pb0 : w8.cell? ⟨gp, 0, none⟩ = some (.slice Pc m.calls.length Pkc) := HP8.out.bx.cell rfl
  have pb1 : w8.cell? ⟨gp, 1, none⟩ = some (.slice Pt m.log.length Pkt) := HP8.out.bx.cell rfl
  have pb2 : w8.cell? ⟨gp, 2, none⟩ = some (.slice Ps 0 Pks) := HP8.out.bx.cell rfl
  have pb3 : w8.cell? ⟨gp, 3, none⟩ = some (.slice Pu m.words.length Pku) := HP8.out.bx.cell rfl
  go_wp2_with fail
  refine (HCop.out _ _ _ _ _ _ _ _ _ _ _ _ HP8.out).mono ?_
  rintro e w9 ⟨Wc, Wkc, Wt, Wkt, Ws, Wks, Wu, Wku, rfl, o1, o2, o4, o3, hb9⟩
  clear pb0 pb1 pb2 pb3
  have HB9 := Lib.hid (HB8.out.trans (hb9.mono HB8.out.size))
  have HR9 := Lib.hid (HR8.out.below hb9 HR8.out.lt)
  have hz9 := hb9.size
  have HP9 := Lib.hid (HP8.out.below hb9)
  have HQ9 := Lib.hid (HQ8.out.below hb9)
  clear hb9 HB8 HR8 HP8 HQ8
  go_upto_region 7 with fail
  have o4 : w9.ownsRow w8.heap.size 94 5 (.slice Ws 0 Wks) 0 (sfVals []) := o4
  obtain ⟨w10, hw10, HW10, hb10⟩ : ∃ W, W = w9.alloc (.cells #[.slice Wc m.calls.length Wkc, .slice Wt m.log.length Wkt, .slice Ws 0 Wks, .slice Wu m.words.length Wku] 39) ∧ Hid (RunB W w9.heap.size w8.heap.size w9.heap.size m.calls m.log m.words Wc Wt Ws Wu Wkc Wkt Wks Wku) ∧ Below w9.heap.size w9 W := ⟨_, rfl, RunB.made o1 o2 o4 o3, (Below.refl _ _).alloc (Nat.le_refl _) _⟩
  first | rw [← hw10] | (simp only [List.length_nil]; rw [← hw10])
  have hzz10 : w10.heap.size = w9.heap.size + 1 := by rw [hw10]; simp
  obtain ⟨gw, hgw⟩ : ∃ g, g = w9.heap.size := ⟨_, rfl⟩
  rw [← hgw] at HW10 ⊢
  have HGW := Lib.hid hgw
  have HZ10 := Lib.hid hzz10
  clear hw10 o1 o2 o3 o4 hgw hzz10
  have HB10 := Lib.hid (HB9.out.trans (hb10.mono HB9.out.size))
  have HR10 := Lib.hid (HR9.out.below hb10 HR9.out.lt)
  have hz10 := hb10.size
  have HP10 := Lib.hid (HP9.out.below hb10)
  have HQ10 := Lib.hid (HQ9.out.below hb10)
  clear hb10 HB9 HR9 HP9 HQ9
  have d0 : w10.cell? ⟨w.heap.size, 0, none⟩ = some (.int .i64 T) := HR10.out.cell rfl
  have d1 : w10.cell? ⟨w.heap.size, 1, none⟩ = some (.int .i64 k) := HR10.out.cell rfl
  have pb0 : w10.cell? ⟨gp, 0, none⟩ = some (.slice Pc m.calls.length Pkc) := HP10.out.bx.cell rfl
  have pb1 : w10.cell? ⟨gp, 1, none⟩ = some (.slice Pt m.log.length Pkt) := HP10.out.bx.cell rfl
  have pb2 : w10.cell? ⟨gp, 2, none⟩ = some (.slice Ps 0 Pks) := HP10.out.bx.cell rfl
  have pb3 : w10.cell? ⟨gp, 3, none⟩ = some (.slice Pu m.words.length Pku) := HP10.out.bx.cell rfl
  go_wp2_with fail
  refine (HSt.out _ _ _ _ _ _ _ _ _ _ _ _ HP10.out hPk).mono ?_
  rintro e w11 ⟨A6, k6, rfl, ho6, hb11⟩
  clear d0 d1 pb0 pb1 pb2 pb3
  have HOa11 := Lib.hid ho6
  have HAb : Hid (∀ r, (Value.slice A6 l.length k6).ownBlock = some r → w10.heap.size ≤ r ∧ r < w11.heap.size) := Lib.hid ho6.lt
  clear ho6
  have HB11 := Lib.hid (HB10.out.trans (hb11.mono HB10.out.size))
  have HR11 := Lib.hid (HR10.out.below hb11 HR10.out.lt)
  have hz11 := hb11.size
  have HP11 := Lib.hid (HP10.out.below hb11)
  have HQ11 := Lib.hid (HQ10.out.below hb11)
  have HW11 := Lib.hid (HW10.out.below hb11)
  clear hb11 HB10 HR10 HP10 HQ10 HW10
  have d0 : w11.cell? ⟨w.heap.size, 0, none⟩ = some (.int .i64 T) := HR11.out.cell rfl
  have d1 : w11.cell? ⟨w.heap.size, 1, none⟩ = some (.int .i64 k) := HR11.out.cell rfl
  have pb0 : w11.cell? ⟨gp, 0, none⟩ = some (.slice Pc m.calls.length Pkc) := HP11.out.bx.cell rfl
  have pb1 : w11.cell? ⟨gp, 1, none⟩ = some (.slice Pt m.log.length Pkt) := HP11.out.bx.cell rfl
  have pb2 : w11.cell? ⟨gp, 2, none⟩ = some (.slice Ps 0 Pks) := HP11.out.bx.cell rfl
  have pb3 : w11.cell? ⟨gp, 3, none⟩ = some (.slice Pu m.words.length Pku) := HP11.out.bx.cell rfl
  go_wp2_with fail
  refine (HSt.out _ _ _ _ _ _ _ _ _ _ _ _ HP11.out hPk).mono ?_
  rintro e w12 ⟨A8, k8, rfl, ho8, hb12⟩
  clear d0 d1 pb0 pb1 pb2 pb3
  have HOb12 := Lib.hid ho8
  have HBb : Hid (∀ r, (Value.slice A8 l.length k8).ownBlock = some r → w11.heap.size ≤ r ∧ r < w12.heap.size) := Lib.hid ho8.lt
  clear ho8
  have HB12 := Lib.hid (HB11.out.trans (hb12.mono HB11.out.size))
  have HR12 := Lib.hid (HR11.out.below hb12 HR11.out.lt)
  have hz12 := hb12.size
  have HP12 := Lib.hid (HP11.out.below hb12)
  have HQ12 := Lib.hid (HQ11.out.below hb12)
  have HW12 := Lib.hid (HW11.out.below hb12)
  have HOa12 := Lib.hid (HOa11.out.below hb12)
  clear hb12 HB11 HR11 HP11 HQ11 HW11 HOa11
  go_wp2_with fail
  refine (HSty.out _ _ _ _ _ (Sl.of_own HOa12.out) (Sl.of_own HOb12.out)).mono ?_
  rintro e w13 ⟨rfl, hb13⟩
  have HB13 := Lib.hid (HB12.out.trans (hb13.mono HB12.out.size))
  have HR13 := Lib.hid (HR12.out.below hb13 HR12.out.lt)
  have hz13 := hb13.size
  have HP13 := Lib.hid (HP12.out.below hb13)
  have HQ13 := Lib.hid (HQ12.out.below hb13)
  have HW13 := Lib.hid (HW12.out.below hb13)
  have HOa13 := Lib.hid (HOa12.out.below hb13)
  have HOb13 := Lib.hid (HOb12.out.below hb13)
  clear hb13 HB12 HR12 HP12 HQ12 HW12 HOa12 HOb12
  go_wp2_with (at_builtin; go_must (refine wpList_app _ rfl _ _ 41 rfl w13.heap.size 68 i1 (.agg #[.int .i64 0, .bool false, .int .i64 0, .int .i64 0]) 4 32 Try.underlying41 hi1 hi1z hi1s hi1b rfl (by decide) (.slice none 0 0) 0 [] rfl (World.ownsRow_nil _ _ _ _) w13.heap.size A6 l.length k6 (styVals l) rfl (Sl.of_own HOa13.out) (HOne.out l) l.length (Nat.zero_add _) _ rfl none rfl (by simp only [maxLen]; omega) (by omega) (Nat.le_refl _) ?_; intro A9 k9 w14 hown9 hg9 hat9 hk9 hk9'))
  rw [List.nil_append] at hown9
  have hb14 : Below w13.heap.size w13 w14 := gb_none hg9 (Nat.le_refl _)
  have HOs14 := Lib.hid hown9
  have HSb : Hid (∀ r, (Value.slice A9 l.length k9).ownBlock = some r → w13.heap.size ≤ r ∧ r < w14.heap.size) := Lib.hid hown9.lt
  clear hown9 hg9 hat9 hk9 hk9'
  have HB14 := Lib.hid (HB13.out.trans (hb14.mono HB13.out.size))
  have HR14 := Lib.hid (HR13.out.below hb14 HR13.out.lt)
  have hz14 := hb14.size
  have HP14 := Lib.hid (HP13.out.below hb14)
  have HQ14 := Lib.hid (HQ13.out.below hb14)
  have HW14 := Lib.hid (HW13.out.below hb14)
  have HOa14 := Lib.hid (HOa13.out.below hb14)
  have HOb14 := Lib.hid (HOb13.out.below hb14)
  clear hb14 HB13 HR13 HP13 HQ13 HW13 HOa13 HOb13
  obtain ⟨Sa, hSa⟩ : ∃ Sa : Nat → Prop, Sa = fun r => w14.heap.size ≤ r ∨ (Value.slice A6 l.length k6).ownBlock = some r := ⟨_, rfl⟩
  have HSa : Hid (∀ r, Sa r → w14.heap.size ≤ r ∨ (w10.heap.size ≤ r ∧ r < w11.heap.size)) := Lib.hid fun r h9 => by
    rw [hSa] at h9
    rcases h9 with h9 | h9
    · exact Or.inl h9
    · exact Or.inr (HAb.out r h9)
  have HSa2 : Hid (∀ r, w14.heap.size ≤ r → Sa r) := Lib.hid fun r h9 => by rw [hSa]; exact Or.inl h9
  have HSa3 : Hid (∀ r, (Value.slice A6 l.length k6).ownBlock = some r → Sa r) := Lib.hid fun r h9 => by rw [hSa]; exact Or.inr h9
  clear hSa
  go_loopg [13] l.length (fun gk i wr => ∃ (j : Nat) (l' : List St), j + gk = l.length ∧ i = .int .i64 j ∧ Hid (l'.length = l.length) ∧ Hid (wr.ownsRow w10.heap.size 68 4 (.slice A6 l.length k6) l.length (styVals l')) ∧ Hid (Kp Sa w14 wr))
  case atStart => exact ⟨0, l, by omega, rfl, rfl, HOa14, Kp.refl⟩
  case round =>
    obtain ⟨j, l', hj, rfl, hl', HO, HK⟩ := hrel
    by_cases hlt : j < l.length
    · have e1 : (j : Int) < l.length := by omega
      have e0 : (0 : Int) ≤ j := by omega
      obtain ⟨g, hA, hBg, hR⟩ := Rw.of_own HO.out (by omega)
      obtain ⟨x, hx⟩ := at_lt (show j < l'.length by rw [hl'.out]; exact hlt)
      have t0 : wr.cell? ⟨g, j * 4, none⟩ = some (.int .i64 x.th) := hR.cell (styVals_get hx 0 (by omega))
      have t1 : wr.cell? ⟨g, j * 4 + 1, none⟩ = some (.bool x.sh) := hR.cell (styVals_get hx 1 (by omega))
      have t2 : wr.cell? ⟨g, j * 4 + 2, none⟩ = some (.int .i64 x.fr) := hR.cell (styVals_get hx 2 (by omega))
      have t3 : wr.cell? ⟨g, j * 4 + 3, none⟩ = some (.int .i64 x.til) := hR.cell (styVals_get hx 3 (by omega))
      have f0 := hR.frozen (j * 4)
      have f1 := hR.frozen (j * 4 + 1)
      have f2 := hR.frozen (j * 4 + 2)
      have f3 := hR.frozen (j * 4 + 3)
      have hgl := hR.lt
      have hSg : Sa g := HSa3.out g (by rw [hA]; rfl)
      have HE : Hid (∀ W, W = (((wr.setCell ⟨g, j * 4, none⟩ (.int .i64 0)).setCell ⟨g, j * 4 + 1, none⟩ (.bool false)).setCell ⟨g, j * 4 + 2, none⟩ (.int .i64 (-7))).setCell ⟨g, j * 4 + 3, none⟩ (.int .i64 0) → W.ownsRow w10.heap.size 68 4 (.slice A6 l.length k6) l.length (styVals (l'.set j ⟨0, false, -7, 0⟩)) ∧ Kp Sa w14 W) := Lib.hid fun W e => by
        have hg9 : wr.grownBy W (some g) := by rw [e]; exact (((gb_set _ _ _ _).trans (gb_set _ _ _ _)).trans (gb_set _ _ _ _)).trans (gb_set _ _ _ _)
        have h9 := (((hR.set_ (j * 4) (.int .i64 0)).set_ (j * 4 + 1) (.bool false)).set_ (j * 4 + 2) (.int .i64 (-7))).set_ (j * 4 + 3) (.int .i64 0)
        rw [styVals_set4 (by rw [hl'.out]; exact hlt) ⟨0, false, -7, 0⟩, ← e] at h9
        refine ⟨by rw [hA]; exact h9.own hBg, HK.out.trans (Kp.gb hg9 (fun r e => by injection e with e; rw [← e]; exact hSg))⟩
      have HA9 := Lib.hid hA
      clear hR hx hSg
      subst hA
      go_wp2_with fail
      go_roundg (gk - 1)
      case measure => omega
      case rel =>
        obtain ⟨h1, h2⟩ := HE.out _ rfl
        exact ⟨j + 1, l'.set j ⟨0, false, -7, 0⟩, by omega, by go_num, by show _ = _; rw [List.length_set]; exact hl'.out, h1, h2⟩
    · obtain rfl : j = l.length := by omega
      clear hlt hj
      obtain ⟨w15, rfl⟩ : ∃ w15 : World, w15 = wr := ⟨_, rfl⟩
      obtain ⟨g15, rfl⟩ : ∃ g15 : Nat, g15 = gk := ⟨_, rfl⟩
      go_wp2_with fail
      go_loopg [10, 14] 70 (fun gk s10 i wr => ∃ (q : Nat) (A7 : Option Addr) (k7 : Nat) (l' : List St), q + gk = 70 ∧ i = .int .i64 q ∧ s10 = .slice A7 l'.length k7 ∧ Hid (l'.length = l.length + q) ∧ Hid (wr.ownsRow w10.heap.size 68 4 s10 l'.length (styVals l')) ∧ Hid (∀ r, s10.ownBlock = some r → Sa r) ∧ Hid (Kp Sa w14 wr))
      case atStart => exact ⟨0, A6, k6, l', by omega, rfl, by rw [hl'.out], by show _ = _; rw [hl'.out]; rfl, by show World.ownsRow _ _ _ _ _ _ _; rw [hl'.out]; exact HO.out, HSa3, HK⟩
      case round =>
        clear HO HK
        obtain ⟨q, A7, k7, o, hq, rfl, rfl, hol, HO, HSo, HK⟩ := hrel
        by_cases hlt : q < 70
        · have e1 : (q : Int) < 70 := by omega
          have e1' : decide ((q : Int) < 70) = true := decide_eq_true e1
          have e0 : (0 : Int) ≤ q := by omega
          have hzw := HK.out.size
          have hob : o.length ≤ 65605 := by rw [hol.out]; omega
          go_wp2_with (at_builtin; go_must (refine wpList_app _ rfl _ _ 41 rfl w10.heap.size 68 i1 (.agg #[.int .i64 0, .bool false, .int .i64 0, .int .i64 0]) 4 32 Try.underlying41 hi1 hi1z hi1s hi1b rfl (by decide) (.slice A7 o.length k7) o.length (styVals o) rfl (HO.out.alloc _) (wr.heap.size + 1) (some ⟨wr.heap.size, 0, none⟩) 1 1 (styL ⟨0, false, -9, 0⟩) rfl (((Blk.new wr 68 _).sl rfl).up (by simp)) (styL_one _) (o.length + 1) rfl _ rfl _ rfl (by simp only [maxLen]; omega) (by omega) (by rw [World.size_alloc]; omega) ?_; intro A9' k9' w9' hown9 hg9 hat9 hk9 hk9'))
          go_roundg (gk - 1)
          case measure => omega
          case rel =>
            refine ⟨q + 1, A9', k9', o ++ [⟨0, false, -9, 0⟩], by omega, by go_num, by rw [List.length_append]; rfl, by show _ = _; rw [List.length_append, hol.out]; rfl, ?_, ?_, ?_⟩
            · show World.ownsRow _ _ _ _ _ _ _
              rw [← styVals_snoc, List.length_append]
              exact hown9
            · show ∀ r, _
              intro r hr
              rcases hat9 with h9 | h9
              · exact HSo.out r (by rw [← h9]; exact hr)
              · rw [h9] at hr
                injection hr with hr
                rw [World.size_alloc] at hr
                exact HSa2.out r (by omega)
            · exact (HK.out.trans (Kp.gb (World.grownBy_alloc _ _ none) (fun r e => by cases e))).trans (Kp.gb hg9 HSo.out)
        · obtain rfl : q = 70 := by omega
          clear hlt HO HSo hq hol hl'
          have e1 : ¬ ((70 : Nat) : Int) < 70 := by omega
          have e1' : decide (((70 : Nat) : Int) < 70) = false := decide_eq_false e1
          obtain ⟨w16, rfl⟩ : ∃ w16 : World, w16 = wr := ⟨_, rfl⟩
          obtain ⟨g16, rfl⟩ : ∃ g16 : Nat, g16 = gk := ⟨_, rfl⟩
          have hz16 := HK.out.size
          have a1 := HGP.out
          have a2 := HGQ.out
          have a3 := HGW.out
          have a4 := HZ4.out
          have a5 := HZ6.out
          have a6 := HZ10.out
          have HB16 : Hid (Below w.heap.size w w16) := HB14.out.trans (HK.out.below HB14.out.size (fun b h9 => by have := HSa.out b h9; have := HB14.out.size; omega))
          have HR16 : Hid (Blk w16 w.heap.size 24 [.int .i64 T, .int .i64 k]) := HK.out.blk HR14.out (fun h9 => by have := HSa.out _ h9;  omega)
          have HP16 := Lib.hid (HP14.out.kp HK.out (fun r h1 h2 h9 => by have := HSa.out r h9; omega) (fun h9 => by have := HSa.out _ h9; omega))
          have HQ16 := Lib.hid (HQ14.out.kp HK.out (fun r h1 h2 h9 => by have := HSa.out r h9; omega) (fun h9 => by have := HSa.out _ h9; omega))
          have HW16 := Lib.hid (HW14.out.kp HK.out (fun r h1 h2 h9 => by have := HSa.out r h9; omega) (fun h9 => by have := HSa.out _ h9; omega))
          have HOb16 := Lib.hid (HK.out.own HOb14.out (fun r h1 h9 => by have := HSa.out r h9; have := HBb.out r h1; omega))
          have HOs16 := Lib.hid (HK.out.own HOs14.out (fun r h1 h9 => by have := HSa.out r h9; have := HSb.out r h1; omega))
          clear a1 a2 a3 a4 a5 a6 HK HSa HSa2 HSa3 HAb HBb HSb
          clear HB14 HR14 HP14 HQ14 HW14 HOb14 HOs14
          have pb0 : w16.cell? ⟨gp, 0, none⟩ = some (.slice Pc m.calls.length Pkc) := HP16.out.bx.cell rfl
          have pb1 : w16.cell? ⟨gp, 1, none⟩ = some (.slice Pt m.log.length Pkt) := HP16.out.bx.cell rfl
          have pb2 : w16.cell? ⟨gp, 2, none⟩ = some (.slice Ps 0 Pks) := HP16.out.bx.cell rfl
          have pb3 : w16.cell? ⟨gp, 3, none⟩ = some (.slice Pu m.words.length Pku) := HP16.out.bx.cell rfl
          have wb0 : w16.cell? ⟨gw, 0, none⟩ = some (.slice Wc m.calls.length Wkc) := HW16.out.bx.cell rfl
          have wb1 : w16.cell? ⟨gw, 1, none⟩ = some (.slice Wt m.log.length Wkt) := HW16.out.bx.cell rfl
          have wb2 : w16.cell? ⟨gw, 2, none⟩ = some (.slice Ws 0 Wks) := HW16.out.bx.cell rfl
          have wb3 : w16.cell? ⟨gw, 3, none⟩ = some (.slice Wu m.words.length Wku) := HW16.out.bx.cell rfl
          go_wp2_with fail
          refine (HSty.out _ _ _ _ _ (Sl.of_own HOb16.out) (Sl.of_own HOs16.out)).mono ?_
          rintro e w17 ⟨rfl, hb17⟩
          clear pb0 pb1 pb2 pb3 wb0 wb1 wb2 wb3
          clear HOa14
          have HB17 := Lib.hid (HB16.out.trans (hb17.mono HB16.out.size))
          have HR17 := Lib.hid (HR16.out.below hb17 HR16.out.lt)
          have hz17 := hb17.size
          have HP17 := Lib.hid (HP16.out.below hb17)
          have HQ17 := Lib.hid (HQ16.out.below hb17)
          have HW17 := Lib.hid (HW16.out.below hb17)
          have HOb17 := Lib.hid (HOb16.out.below hb17)
          have HOs17 := Lib.hid (HOs16.out.below hb17)
          clear hb17 HB16 HR16 HP16 HQ16 HW16 HOb16 HOs16
          clear HOb17 HOs17
          have pb0 : w17.cell? ⟨gp, 0, none⟩ = some (.slice Pc m.calls.length Pkc) := HP17.out.bx.cell rfl
          have pb1 : w17.cell? ⟨gp, 1, none⟩ = some (.slice Pt m.log.length Pkt) := HP17.out.bx.cell rfl
          have pb2 : w17.cell? ⟨gp, 2, none⟩ = some (.slice Ps 0 Pks) := HP17.out.bx.cell rfl
          have pb3 : w17.cell? ⟨gp, 3, none⟩ = some (.slice Pu m.words.length Pku) := HP17.out.bx.cell rfl
          have wb0 : w17.cell? ⟨gw, 0, none⟩ = some (.slice Wc m.calls.length Wkc) := HW17.out.bx.cell rfl
          have wb1 : w17.cell? ⟨gw, 1, none⟩ = some (.slice Wt m.log.length Wkt) := HW17.out.bx.cell rfl
          have wb2 : w17.cell? ⟨gw, 2, none⟩ = some (.slice Ws 0 Wks) := HW17.out.bx.cell rfl
          have wb3 : w17.cell? ⟨gw, 3, none⟩ = some (.slice Wu m.words.length Wku) := HW17.out.bx.cell rfl
          go_wp2_with fail
          refine (HSame.out _ _ _ _ _ _ _ _ _ _ _ _ _ _ _ _ _ _ _ _ _ _ _ HP17.out HW17.out).mono ?_
          rintro e w18 ⟨rfl, hb18⟩
          clear pb0 pb1 pb2 pb3 wb0 wb1 wb2 wb3
          have HB18 := Lib.hid (HB17.out.trans (hb18.mono HB17.out.size))
          have HR18 := Lib.hid (HR17.out.below hb18 HR17.out.lt)
          have hz18 := hb18.size
          have HP18 := Lib.hid (HP17.out.below hb18)
          have HQ18 := Lib.hid (HQ17.out.below hb18)
          have HW18 := Lib.hid (HW17.out.below hb18)
          clear hb18 HB17 HR17 HP17 HQ17 HW17
          have pb0 : w18.cell? ⟨gp, 0, none⟩ = some (.slice Pc m.calls.length Pkc) := HP18.out.bx.cell rfl
          have pb1 : w18.cell? ⟨gp, 1, none⟩ = some (.slice Pt m.log.length Pkt) := HP18.out.bx.cell rfl
          have pb2 : w18.cell? ⟨gp, 2, none⟩ = some (.slice Ps 0 Pks) := HP18.out.bx.cell rfl
          have pb3 : w18.cell? ⟨gp, 3, none⟩ = some (.slice Pu m.words.length Pku) := HP18.out.bx.cell rfl
          go_wp2_with fail
          have hlo : w2.heap.size ≤ w18.heap.size := by have := HGP.out; omega
          refine (HSpo.out 1000 (by decide) _ _ _ _ _ _ _ _ _ _ _ _ HP18.out hlo).mono ?_
          rintro e w19 ⟨Ec, Et, Es, Eu, Ekc, Ekt, Eks, Eku, rfl, hSp⟩
          clear pb0 pb1 pb2 pb3
          obtain ⟨S19, hS19⟩ : ∃ S : Nat → Prop, S = Sp4 w18.heap.size (.slice Pc m.calls.length Pkc) (.slice Pt m.log.length Pkt) (.slice Ps 0 Pks) (.slice Pu m.words.length Pku) := ⟨_, rfl⟩
          rw [← hS19] at hSp
          have HS19 : Hid (∀ r, S19 r → w18.heap.size ≤ r ∨ (w2.heap.size ≤ r ∧ r < gp)) := Lib.hid fun r h9 => by
            rw [hS19] at h9
            rcases h9 with h9 | h9 | h9 | h9 | h9
            · exact Or.inl h9
            · exact Or.inr ⟨(HP18.out.oc.lt r h9).1, HP18.out.hc r h9⟩
            · exact Or.inr ⟨(HP18.out.ot.lt r h9).1, HP18.out.ht r h9⟩
            · exact Or.inr ⟨(HP18.out.os.lt r h9).1, HP18.out.hs r h9⟩
            · exact Or.inr ⟨(HP18.out.ou.lt r h9).1, HP18.out.hu r h9⟩
          have HK19 := Lib.hid hSp.kp
          have b1 := HGP.out
          have b2 := HGQ.out
          have b3 := HGW.out
          have b4 := HZ4.out
          have b5 := HZ6.out
          have b6 := HZ10.out
          have hz19 := hSp.kp.size
          have HB19 : Hid (Below w.heap.size w w19) := HB18.out.trans (hSp.kp.below HB18.out.size (fun b h9 => by have := HS19.out b h9; have := HB18.out.size; omega))
          have HR19 : Hid (Blk w19 w.heap.size 24 [.int .i64 T, .int .i64 k]) := hSp.kp.blk HR18.out (fun h9 => by have := HS19.out _ h9;  have := HR18.out.lt; omega)
          have HQ19 := Lib.hid (HQ18.out.kp hSp.kp (fun r h1 h2 h9 => by have := HS19.out r h9; omega) (fun h9 => by have := HS19.out _ h9; have := HQ18.out.bx.lt; omega))
          have HW19 := Lib.hid (HW18.out.kp hSp.kp (fun r h1 h2 h9 => by have := HS19.out r h9; omega) (fun h9 => by have := HS19.out _ h9; have := HW18.out.bx.lt; omega))
          clear b1 b2 b3 b4 b5 b6 hS19
          go_upto_region 23 with fail
          obtain ⟨w20, hw20, HE20, hb20⟩ : ∃ W, W = w19.alloc (.cells #[.slice Ec (m.calls.length + 70) Ekc, .slice Et (m.log.length + 70) Ekt, .slice Es 70 Eks, .slice Eu (m.words.length + 70) Eku] 39) ∧ Hid (SpB W w19.heap.size S19 1000 m.calls.length m.log.length m.words.length Ec Et Es Eu Ekc Ekt Eks Eku) ∧ Below w19.heap.size w19 W := ⟨_, rfl, spot_zero hSp, (Below.refl _ _).alloc (Nat.le_refl _) _⟩
          first | rw [← hw20] | (simp only [Nat.zero_add]; rw [← hw20])
          have hzz20 : w20.heap.size = w19.heap.size + 1 := by rw [hw20]; simp
          obtain ⟨ge, hge⟩ : ∃ g, g = w19.heap.size := ⟨_, rfl⟩
          rw [← hge] at HE20 ⊢
          have HGE := Lib.hid hge
          have HZ20 := Lib.hid hzz20
          clear hw20 hSp hge hzz20 HB18 HR18 HP18 HQ18 HW18
          have HB20 := Lib.hid (HB19.out.trans (hb20.mono HB19.out.size))
          have HR20 := Lib.hid (HR19.out.below hb20 HR19.out.lt)
          have hz20 := hb20.size
          have HQ20 := Lib.hid (HQ19.out.below hb20)
          have HW20 := Lib.hid (HW19.out.below hb20)
          clear hb20 HB19 HR19 HQ19 HW19
          have HEb : Hid (w18.heap.size ≤ w19.heap.size) := Lib.hid hz19
          have d0 : w20.cell? ⟨w.heap.size, 0, none⟩ = some (.int .i64 T) := HR20.out.cell rfl
          have d1 : w20.cell? ⟨w.heap.size, 1, none⟩ = some (.int .i64 k) := HR20.out.cell rfl
          go_wp2_with fail
          refine (hP.out w20 HB20.out).mono ?_
          clear d0 d1
          rintro e w21 ⟨Yc, Ykc, Yt, Ykt, Yu, Yku, rfl, o1, o2, o3, hb21⟩
          have hb21' := hb21
          have HB21 := Lib.hid (HB20.out.trans (hb21.mono HB20.out.size))
          have HR21 := Lib.hid (HR20.out.below hb21 HR20.out.lt)
          have hz21 := hb21.size
          have HQ21 := Lib.hid (HQ20.out.below hb21)
          have HW21 := Lib.hid (HW20.out.below hb21)
          have HE21 := Lib.hid (HE20.out.below hb21)
          clear hb21 HB20 HR20 HQ20 HW20 HE20
  
          have hYk := (own_cap o1).1
          go_upto_region 24 with fail
          obtain ⟨Ys, Yks, hxs⟩ : ∃ (s : Option Addr) (q : Nat), s = none ∧ q = 0 := ⟨_, _, rfl, rfl⟩
          have hoY : w21.ownsRow w20.heap.size 94 5 (.slice Ys 0 Yks) 0 (sfVals []) := by rw [hxs.1, hxs.2]; exact World.ownsRow_nil _ _ _ _
          have hslY : Value.slice none 0 0 = .slice Ys 0 Yks := by rw [hxs.1, hxs.2]
          rw [hslY]
          clear hxs hslY
          obtain ⟨w22, hw22, HY22, hb22⟩ : ∃ W, W = w21.alloc (.cells #[.slice Yc m.calls.length Ykc, .slice Yt m.log.length Ykt, .slice Ys 0 Yks, .slice Yu m.words.length Yku] 39) ∧ Hid (RunB W w21.heap.size w20.heap.size w21.heap.size m.calls m.log m.words Yc Yt Ys Yu Ykc Ykt Yks Yku) ∧ Below w21.heap.size w21 W := ⟨_, rfl, RunB.made o1 o2 hoY o3, (Below.refl _ _).alloc (Nat.le_refl _) _⟩
          rw [← hw22]
          have hzz22 : w22.heap.size = w21.heap.size + 1 := by rw [hw22]; simp
          obtain ⟨gy, hgy⟩ : ∃ g, g = w21.heap.size := ⟨_, rfl⟩
          rw [← hgy] at HY22 ⊢
          have HGY := Lib.hid hgy
          have HZ22 := Lib.hid hzz22
          clear hw22 o1 o2 o3 hoY hgy hb21' hzz22
          have HB22 := Lib.hid (HB21.out.trans (hb22.mono HB21.out.size))
          have HR22 := Lib.hid (HR21.out.below hb22 HR21.out.lt)
          have hz22 := hb22.size
          have HQ22 := Lib.hid (HQ21.out.below hb22)
          have HW22 := Lib.hid (HW21.out.below hb22)
          have HE22 := Lib.hid (HE21.out.below hb22)
          clear hb22 HB21 HR21 HQ21 HW21 HE21
          have qb0 : w22.cell? ⟨gq, 0, none⟩ = some (.slice Qc m.calls.length Qkc) := HQ22.out.bx.cell rfl
          have qb1 : w22.cell? ⟨gq, 1, none⟩ = some (.slice Qt m.log.length Qkt) := HQ22.out.bx.cell rfl
          have qb2 : w22.cell? ⟨gq, 2, none⟩ = some (.slice Qs 0 Qks) := HQ22.out.bx.cell rfl
          have qb3 : w22.cell? ⟨gq, 3, none⟩ = some (.slice Qu m.words.length Qku) := HQ22.out.bx.cell rfl
          have wb0 : w22.cell? ⟨gw, 0, none⟩ = some (.slice Wc m.calls.length Wkc) := HW22.out.bx.cell rfl
          have wb1 : w22.cell? ⟨gw, 1, none⟩ = some (.slice Wt m.log.length Wkt) := HW22.out.bx.cell rfl
          have wb2 : w22.cell? ⟨gw, 2, none⟩ = some (.slice Ws 0 Wks) := HW22.out.bx.cell rfl
          have wb3 : w22.cell? ⟨gw, 3, none⟩ = some (.slice Wu m.words.length Wku) := HW22.out.bx.cell rfl
          go_wp2_with fail
          refine (HSame.out _ _ _ _ _ _ _ _ _ _ _ _ _ _ _ _ _ _ _ _ _ _ _ HQ22.out HW22.out).mono ?_
          rintro e w23 ⟨rfl, hb23⟩
          clear qb0 qb1 qb2 qb3 wb0 wb1 wb2 wb3
          have HB23 := Lib.hid (HB22.out.trans (hb23.mono HB22.out.size))
          have HR23 := Lib.hid (HR22.out.below hb23 HR22.out.lt)
          have hz23 := hb23.size
          have HQ23 := Lib.hid (HQ22.out.below hb23)
          have HW23 := Lib.hid (HW22.out.below hb23)
          have HE23 := Lib.hid (HE22.out.below hb23)
          have HY23 := Lib.hid (HY22.out.below hb23)
          clear hb23 HB22 HR22 HQ22 HW22 HE22 HY22
          have yb0 : w23.cell? ⟨gy, 0, none⟩ = some (.slice Yc m.calls.length Ykc) := HY23.out.bx.cell rfl
          have yb1 : w23.cell? ⟨gy, 1, none⟩ = some (.slice Yt m.log.length Ykt) := HY23.out.bx.cell rfl
          have yb2 : w23.cell? ⟨gy, 2, none⟩ = some (.slice Ys 0 Yks) := HY23.out.bx.cell rfl
          have yb3 : w23.cell? ⟨gy, 3, none⟩ = some (.slice Yu m.words.length Yku) := HY23.out.bx.cell rfl
          have wb0 : w23.cell? ⟨gw, 0, none⟩ = some (.slice Wc m.calls.length Wkc) := HW23.out.bx.cell rfl
          have wb1 : w23.cell? ⟨gw, 1, none⟩ = some (.slice Wt m.log.length Wkt) := HW23.out.bx.cell rfl
          have wb2 : w23.cell? ⟨gw, 2, none⟩ = some (.slice Ws 0 Wks) := HW23.out.bx.cell rfl
          have wb3 : w23.cell? ⟨gw, 3, none⟩ = some (.slice Wu m.words.length Wku) := HW23.out.bx.cell rfl
          go_wp2_with fail
          refine (HSame.out _ _ _ _ _ _ _ _ _ _ _ _ _ _ _ _ _ _ _ _ _ _ _ HY23.out HW23.out).mono ?_
          rintro e w24 ⟨rfl, hb24⟩
          clear yb0 yb1 yb2 yb3 wb0 wb1 wb2 wb3
          have HB24 := Lib.hid (HB23.out.trans (hb24.mono HB23.out.size))
          have HR24 := Lib.hid (HR23.out.below hb24 HR23.out.lt)
          have hz24 := hb24.size
          have HQ24 := Lib.hid (HQ23.out.below hb24)
          have HW24 := Lib.hid (HW23.out.below hb24)
          have HE24 := Lib.hid (HE23.out.below hb24)
          have HY24 := Lib.hid (HY23.out.below hb24)
          clear hb24 HB23 HR23 HQ23 HW23 HE23 HY23
          have qb0 : w24.cell? ⟨gq, 0, none⟩ = some (.slice Qc m.calls.length Qkc) := HQ24.out.bx.cell rfl
          have qb1 : w24.cell? ⟨gq, 1, none⟩ = some (.slice Qt m.log.length Qkt) := HQ24.out.bx.cell rfl
          have qb2 : w24.cell? ⟨gq, 2, none⟩ = some (.slice Qs 0 Qks) := HQ24.out.bx.cell rfl
          have qb3 : w24.cell? ⟨gq, 3, none⟩ = some (.slice Qu m.words.length Qku) := HQ24.out.bx.cell rfl
          go_wp2_with fail
          have hlo : w4.heap.size ≤ w24.heap.size := by have := HGQ.out; omega
          refine (HSpo.out 2000 (by decide) _ _ _ _ _ _ _ _ _ _ _ _ HQ24.out hlo).mono ?_
          rintro e w25 ⟨Fc, Ft, Fs, Fu, Fkc, Fkt, Fks, Fku, rfl, hSp⟩
          clear qb0 qb1 qb2 qb3
          obtain ⟨S25, hS25⟩ : ∃ S : Nat → Prop, S = Sp4 w24.heap.size (.slice Qc m.calls.length Qkc) (.slice Qt m.log.length Qkt) (.slice Qs 0 Qks) (.slice Qu m.words.length Qku) := ⟨_, rfl⟩
          rw [← hS25] at hSp
          have HS25 : Hid (∀ r, S25 r → w24.heap.size ≤ r ∨ (w4.heap.size ≤ r ∧ r < gq)) := Lib.hid fun r h9 => by
            rw [hS25] at h9
            rcases h9 with h9 | h9 | h9 | h9 | h9
            · exact Or.inl h9
            · exact Or.inr ⟨(HQ24.out.oc.lt r h9).1, HQ24.out.hc r h9⟩
            · exact Or.inr ⟨(HQ24.out.ot.lt r h9).1, HQ24.out.ht r h9⟩
            · exact Or.inr ⟨(HQ24.out.os.lt r h9).1, HQ24.out.hs r h9⟩
            · exact Or.inr ⟨(HQ24.out.ou.lt r h9).1, HQ24.out.hu r h9⟩
          have HK25 := Lib.hid hSp.kp
          have b1 := HGP.out
          have b2 := HGQ.out
          have b3 := HGW.out
          have b4 := HZ4.out
          have b5 := HZ6.out
          have b6 := HZ10.out
          have hz25 := hSp.kp.size
          have HB25 : Hid (Below w.heap.size w w25) := HB24.out.trans (hSp.kp.below HB24.out.size (fun b h9 => by have := HS25.out b h9; have := HB24.out.size; omega))
          have HR25 : Hid (Blk w25 w.heap.size 24 [.int .i64 T, .int .i64 k]) := hSp.kp.blk HR24.out (fun h9 => by have := HS25.out _ h9;  have := HR24.out.lt; omega)
          have HW25 := Lib.hid (HW24.out.kp hSp.kp (fun r h1 h2 h9 => by have := HS25.out r h9; omega) (fun h9 => by have := HS25.out _ h9; have := HW24.out.bx.lt; omega))
          have HE25 := Lib.hid (HE24.out.kp hSp.kp (fun r h1 h2 h9 => by have := HS25.out r h9; have := HS19.out r h2; have h8 := HEb.out; omega) (fun h9 => by have := HS25.out _ h9; have := HGE.out; have := HE24.out.bx.lt; omega))
          have HY25 := Lib.hid (HY24.out.kp hSp.kp (fun r h1 h2 h9 => by have := HS25.out r h9; have := HGY.out; omega) (fun h9 => by have := HS25.out _ h9; have := HGY.out; have := HY24.out.bx.lt; omega))
          clear b1 b2 b3 b4 b5 b6 hS25
          go_upto_region 27 with fail
          obtain ⟨w26, hw26, HF26, hb26⟩ : ∃ W, W = w25.alloc (.cells #[.slice Fc (m.calls.length + 70) Fkc, .slice Ft (m.log.length + 70) Fkt, .slice Fs 70 Fks, .slice Fu (m.words.length + 70) Fku] 39) ∧ Hid (SpB W w25.heap.size S25 2000 m.calls.length m.log.length m.words.length Fc Ft Fs Fu Fkc Fkt Fks Fku) ∧ Below w25.heap.size w25 W := ⟨_, rfl, spot_zero hSp, (Below.refl _ _).alloc (Nat.le_refl _) _⟩
          first | rw [← hw26] | (simp only [Nat.zero_add]; rw [← hw26])
          have hzz26 : w26.heap.size = w25.heap.size + 1 := by rw [hw26]; simp
          obtain ⟨gf, hgf⟩ : ∃ g, g = w25.heap.size := ⟨_, rfl⟩
          rw [← hgf] at HF26 ⊢
          have HGF := Lib.hid hgf
          have HZ26 := Lib.hid hzz26
          clear hw26 hSp hgf hzz26 HB24 HR24 HQ24 HW24 HE24 HY24
          have HB26 := Lib.hid (HB25.out.trans (hb26.mono HB25.out.size))
          have HR26 := Lib.hid (HR25.out.below hb26 HR25.out.lt)
          have hz26 := hb26.size
          have HW26 := Lib.hid (HW25.out.below hb26)
          have HE26 := Lib.hid (HE25.out.below hb26)
          have HY26 := Lib.hid (HY25.out.below hb26)
          clear hb26 HB25 HR25 HW25 HE25 HY25
          have eb0 : w26.cell? ⟨ge, 0, none⟩ = some (.slice Ec (m.calls.length + 70) Ekc) := HE26.out.bx.cell rfl
          have eb1 : w26.cell? ⟨ge, 1, none⟩ = some (.slice Et (m.log.length + 70) Ekt) := HE26.out.bx.cell rfl
          have eb2 : w26.cell? ⟨ge, 2, none⟩ = some (.slice Es 70 Eks) := HE26.out.bx.cell rfl
          have eb3 : w26.cell? ⟨ge, 3, none⟩ = some (.slice Eu (m.words.length + 70) Eku) := HE26.out.bx.cell rfl
          have wb0 : w26.cell? ⟨gw, 0, none⟩ = some (.slice Wc m.calls.length Wkc) := HW26.out.bx.cell rfl
          have wb1 : w26.cell? ⟨gw, 1, none⟩ = some (.slice Wt m.log.length Wkt) := HW26.out.bx.cell rfl
          have wb2 : w26.cell? ⟨gw, 2, none⟩ = some (.slice Ws 0 Wks) := HW26.out.bx.cell rfl
          have wb3 : w26.cell? ⟨gw, 3, none⟩ = some (.slice Wu m.words.length Wku) := HW26.out.bx.cell rfl
          go_wp2_with fail
          refine (HSpt.out 1000 (by decide) _ _ _ _ _ _ _ _ _ _ _ _ _ _ _ _ _ _ _ HE26.out).mono ?_
          rintro e w27 ⟨rfl, hb27⟩
          clear eb0 eb1 eb2 eb3 wb0 wb1 wb2 wb3
          have HB27 := Lib.hid (HB26.out.trans (hb27.mono HB26.out.size))
          have HR27 := Lib.hid (HR26.out.below hb27 HR26.out.lt)
          have hz27 := hb27.size
          have HW27 := Lib.hid (HW26.out.below hb27)
          have HE27 := Lib.hid (HE26.out.below hb27)
          have HY27 := Lib.hid (HY26.out.below hb27)
          have HF27 := Lib.hid (HF26.out.below hb27)
          clear hb27 HB26 HR26 HW26 HE26 HY26 HF26
          have fb0 : w27.cell? ⟨gf, 0, none⟩ = some (.slice Fc (m.calls.length + 70) Fkc) := HF27.out.bx.cell rfl
          have fb1 : w27.cell? ⟨gf, 1, none⟩ = some (.slice Ft (m.log.length + 70) Fkt) := HF27.out.bx.cell rfl
          have fb2 : w27.cell? ⟨gf, 2, none⟩ = some (.slice Fs 70 Fks) := HF27.out.bx.cell rfl
          have fb3 : w27.cell? ⟨gf, 3, none⟩ = some (.slice Fu (m.words.length + 70) Fku) := HF27.out.bx.cell rfl
          have wb0 : w27.cell? ⟨gw, 0, none⟩ = some (.slice Wc m.calls.length Wkc) := HW27.out.bx.cell rfl
          have wb1 : w27.cell? ⟨gw, 1, none⟩ = some (.slice Wt m.log.length Wkt) := HW27.out.bx.cell rfl
          have wb2 : w27.cell? ⟨gw, 2, none⟩ = some (.slice Ws 0 Wks) := HW27.out.bx.cell rfl
          have wb3 : w27.cell? ⟨gw, 3, none⟩ = some (.slice Wu m.words.length Wku) := HW27.out.bx.cell rfl
          go_wp2_with fail
          refine (HSpt.out 2000 (by decide) _ _ _ _ _ _ _ _ _ _ _ _ _ _ _ _ _ _ _ HF27.out).mono ?_
          rintro e w28 ⟨rfl, hb28⟩
          clear fb0 fb1 fb2 fb3 wb0 wb1 wb2 wb3
          have HB28 := Lib.hid (HB27.out.trans (hb28.mono HB27.out.size))
          have HR28 := Lib.hid (HR27.out.below hb28 HR27.out.lt)
          have hz28 := hb28.size
          have HW28 := Lib.hid (HW27.out.below hb28)
          have HE28 := Lib.hid (HE27.out.below hb28)
          have HY28 := Lib.hid (HY27.out.below hb28)
          have HF28 := Lib.hid (HF27.out.below hb28)
          clear hb28 HB27 HR27 HW27 HE27 HY27 HF27
          have yb0 : w28.cell? ⟨gy, 0, none⟩ = some (.slice Yc m.calls.length Ykc) := HY28.out.bx.cell rfl
          have yb1 : w28.cell? ⟨gy, 1, none⟩ = some (.slice Yt m.log.length Ykt) := HY28.out.bx.cell rfl
          have yb2 : w28.cell? ⟨gy, 2, none⟩ = some (.slice Ys 0 Yks) := HY28.out.bx.cell rfl
          have yb3 : w28.cell? ⟨gy, 3, none⟩ = some (.slice Yu m.words.length Yku) := HY28.out.bx.cell rfl
          have wb0 : w28.cell? ⟨gw, 0, none⟩ = some (.slice Wc m.calls.length Wkc) := HW28.out.bx.cell rfl
          have wb1 : w28.cell? ⟨gw, 1, none⟩ = some (.slice Wt m.log.length Wkt) := HW28.out.bx.cell rfl
          have wb2 : w28.cell? ⟨gw, 2, none⟩ = some (.slice Ws 0 Wks) := HW28.out.bx.cell rfl
          have wb3 : w28.cell? ⟨gw, 3, none⟩ = some (.slice Wu m.words.length Wku) := HW28.out.bx.cell rfl
          go_wp2_with fail
          refine (HSame.out _ _ _ _ _ _ _ _ _ _ _ _ _ _ _ _ _ _ _ _ _ _ _ HY28.out HW28.out).mono ?_
          rintro e w29 ⟨rfl, hb29⟩
          clear yb0 yb1 yb2 yb3 wb0 wb1 wb2 wb3
          have HB29 := Lib.hid (HB28.out.trans (hb29.mono HB28.out.size))
          clear hb29
          go_wp2_with fail
          go_ret
          exact ⟨rfl, HB29.out⟩

end Go.Proofs.Ytjnmlgfkiebkgaa
