/-
slices.Delete of one store out of a buffer. reclaimref19.Fla
-/
import Derived.Test.YtgjdgapfnfhklaaGreatQcp
import Derived.Laws.OwnMore
import Derived.Lib.SliceRun
import Derived.Test.YtgjdgapfnfhklaaGreatZ25
import Derived.Test.YtgjdgapfnfhklaaGreatZ7
import Derived.Test.YtgjdgapfnfhklaaGreatZ20
set_option linter.unusedSimpArgs false
set_option linter.unusedVariables false
set_option maxRecDepth 100000
set_option maxHeartbeats 16000000
namespace Go.Proofs.YtgjdgapfnfhklaaGreat
open Go.RowKit
theorem step_fit {P : Program} (w : World) {ops : Array Oper} {o : Oper} {a : Act} {K : Act -> World -> Prop} {Q : Exit -> Act -> World -> Prop} {E : Prop} (hgd : o.guard = none) (s x : Operand) (t : TypeId)
  (ho : o.op = .call { callee := .builtin .append, args := #[s, x], argTypes := #[t, t] })
  (base : Nat) (e : TypeId) (i : TypeInfo) (size : Nat) (ht : P.underlying t = some (.slice e)) (hi : P.info? e = some i) (hsize : i.size = size)
  (g n cap : Nat) (xs : List Value) (hv : a.eval s = .slice (some ⟨g, 0, none⟩) n cap) (hown : w.ownsRow base e size (.slice (some ⟨g, 0, none⟩) n cap) n xs)
  (ad : Addr) (m c : Nat) (news : List Value) (hx : a.eval x = .slice (some ad) m c) (hl : news.length = m * size) (hnews : ∀ j u, news[j]? = some u -> w.cell? (ad.add j) = some u) (h1 : ∀ u ∈ news, u.oneCell' = true) (hroom : n + m <= cap)
  (N : Nat) (hN : n + m = N) (ys : List Value) (hys : xs ++ news = ys)
  (h : ∀ w', w'.ownsRow base e size (.slice (some ⟨g, 0, none⟩) N cap) N ys -> w.grownBy w' (some g) -> K (a.put o.dst (.slice (some ⟨g, 0, none⟩) N cap)) w') :
  if Region.wanted o (yielded ops a.tmps) = true then Oper.wp P o a w K Q else E := by
 subst hN hys
 have hw : Region.wanted o (yielded ops a.tmps) = true := by simp [Region.wanted, hgd]
 rw [if_pos hw]
 obtain ⟨w', hrun, h2, h3⟩ := run_append_fits (P := P) w base t o.type e i size ht hi hsize g n cap xs hown ad m c news hl hnews h1 hroom
 unfold Oper.wp execOp
 simp only [ho, resolve, invoke, builtin, Sem.run_bind, Sem.run_pure, Result.andThen_ok, List.map_toArray, List.map_cons, List.map_nil, hv, hx, hrun]
 exact h w' h2 h3
theorem own_beyond {w : World} {base g n k size : Nat} {e : TypeId} {xs : List Value} (h : w.ownsRow base e size (.slice (some ⟨g, 0, none⟩) n k) n xs) {j : Nat} (hj : n * size <= j) (u : Value) :
  (w.setCell ⟨g, j, none⟩ u).ownsRow base e size (.slice (some ⟨g, 0, none⟩) n k) n xs /\ w.grownBy (w.setCell ⟨g, j, none⟩ u) (some g) := by
 obtain ⟨h1, h2⟩ := h.stored j u
 rw [List.set_eq_of_length_le (by rw [h.1]; exact hj)] at h1
 exact ⟨h1, h2⟩
theorem grown_trans {a b c : World} {r : Option Nat} (h : a.grownBy b r) (h2 : b.grownBy c r) : a.grownBy c r :=
 ⟨h2.os.trans h.os, h2.tape.trans h.tape, h2.output.trans h.output, Nat.le_trans h.size h2.size, fun k hk hr => (h2.block k (Nat.lt_of_lt_of_le hk h.size) hr).trans (h.block k hk hr)⟩
theorem own_room {w : World} {base g n k size j : Nat} {e : TypeId} {xs : List Value} (h : w.ownsRow base e size (.slice (some ⟨g, 0, none⟩) n k) n xs) (hj : j < k * size) : (w.cell? ⟨g, j, none⟩).isSome = true /\ w.frozen? ⟨g, j, none⟩ = false := by
 refine ⟨?_, h.frozenAt j⟩
 rcases h.2 with ⟨h', _⟩ | ⟨g', cap', cur, h', _, hg, _, _, hcs, _⟩
 ·simp at h'
 ·simp only [Value.slice.injEq, Option.some.injEq, Addr.mk.injEq, and_true, true_and] at h'
  obtain ⟨rfl, rfl⟩ := h'
  rw [cell_of_row w g j cur e (0, 0) hg]
  simp [hcs, hj]
theorem own_cut {w : World} {base g n k i : Nat} {e : TypeId} {q : List Pd} (h : w.ownsRow base e 2 (.slice (some ⟨g, 0, none⟩) n k) n (pdVals q)) (hi : i <= n) : w.ownsRow base e 2 (.slice (some ⟨g, 0, none⟩) i k) i (pdVals (q.take i)) := by
 have hl := h.1
 rw [pdVals_len] at hl
 have hs : pdVals q = pdVals (q.take i) ++ pdVals (q.drop i) := by rw [<- pdVals_app, List.take_append_drop]
 have ht : (pdVals (q.take i)).length = i * 2 := by rw [pdVals_len, List.length_take]; omega
 refine ⟨ht, ?_⟩
 rcases h.2 with ⟨h', _⟩ | ⟨g', cap', cur, h', hb, hg, hnc, hcm, hcs, htk⟩
 ·simp at h'
 ·simp only [Value.slice.injEq, Option.some.injEq, Addr.mk.injEq, and_true, true_and] at h'
  obtain ⟨rfl, rfl⟩ := h'
  refine Or.inr ⟨g, k, cur, rfl, hb, hg, by omega, hcm, hcs, ?_⟩
  have : cur.toList.take (i * 2) = (pdVals q).take (i * 2) := by rw [<- htk, List.take_take]; congr 1; omega
  rw [this, hs, <- ht, List.take_left]
def DelR (g k : Nat) (q : List Pd) (w : World) (e : Ending) (w' : World) : Prop := e = .returned (.slice (some ⟨g, 0, none⟩) q.length k) /\ w'.ownsRow 0 180 2 (.slice (some ⟨g, 0, none⟩) q.length k) q.length (pdVals q) /\ w.grownBy w' (some g)
theorem zero_pd (w : World) : (zeroValue 180).run Tryz.prog w = .ok (.agg #[.int .i64 0, .int .i64 0]) w := by
 obtain ⟨i0, hi0, hi0z, _⟩ := info_parts info_pd
 simp [zeroValue, typeInfo, hi0, hi0z]
theorem clear_pd (w : World) (ty : TypeId) (g o c : Nat) (h0 : (w.cell? ⟨g, o, none⟩).isSome = true /\ w.frozen? ⟨g, o, none⟩ = false) (h1 : (w.cell? ⟨g, o + 1, none⟩).isSome = true /\ w.frozen? ⟨g, o + 1, none⟩ = false) :
  (Builtin.clear_ #[161] ty #[.slice (some ⟨g, o, none⟩) 1 c]).run Tryz.prog w = .ok (.tuple #[]) (w.setCells g o [.int .i64 0, .int .i64 0]) := by
 have hst := run_storeCells_cells (P := Tryz.prog) g o [.int .i64 0, .int .i64 0] 0 w
  (fun j hj => by
   have hj : j < 2 := hj
   obtain rfl | rfl : j = 0 ∨ j = 1 := by omega
   ·exact h0.1
   ·exact h1.1)
  (fun j hj => by
   have hj : j < 2 := hj
   obtain rfl | rfl : j = 0 ∨ j = 1 := by omega
   ·exact h0.2
   ·exact h1.2)
  (by intro u hu; simp at hu; subst hu; rfl)
 simp only [Nat.add_zero] at hst
 have hz : (Builtin.zeroCells (Value.agg #[.int .i64 0, .int .i64 0]).cells 1).toList = [.int .i64 0, .int .i64 0] := by kernel_rfl
 simp [Builtin.clear_, run_underlying Tryz.underlying161, zero_pd, hz, hst]
theorem del_any (g k i : Nat) (q : List Pd) (w : World) (h : w.ownsRow 0 180 2 (.slice (some ⟨g, 0, none⟩) q.length k) q.length (pdVals q)) (hi : i < q.length) (hq : q.length <= 10) :
  Calls Tryz.prog 99 #[.slice (some ⟨g, 0, none⟩) q.length k, .int .i64 i, .int .i64 ((i : Int) + 1)] w (DelR g k (q.eraseIdx i) w) := by
 obtain ⟨i0, hi0, hi0z, hi0s, hi0b⟩ := info_parts info_pd
 obtain ⟨A9, k9, hv, hk1, hk2⟩ := own_form h
 injection hv with hA _ hv
 subst hA hv
 have hlen : (q.eraseIdx i).length = q.length - 1 := List.length_eraseIdx_of_lt hi
 have her : Hid (pdVals (q.take i) ++ pdVals (q.drop (i + 1)) = pdVals (q.eraseIdx i)) := Lh (by rw [List.eraseIdx_eq_take_drop_succ, pdVals_app])
 obtain ⟨q9, hq9⟩ : ∃ q9, q9 = q.eraseIdx i := ⟨_, rfl⟩
 rw [<- hq9] at hlen her ⊢
 clear hq9
 have HLn := Lh hlen
 clear hlen
 have HO := Lh h
 have HC := Lh (own_cut h (Nat.le_of_lt hi))
 have hn : ∀ j u, (pdVals (q.drop (i + 1)))[j]? = some u -> w.cell? ⟨g, (i + 1) * 2 + j, none⟩ = some u := fun j u hu => by
  have hj := (List.getElem?_eq_some_iff.1 hu).1
  rw [pdVals_len, List.length_drop] at hj
  rw [HO.o.cellAt _ (by omega)]
  have hs : pdVals q = pdVals (q.take (i + 1)) ++ pdVals (q.drop (i + 1)) := by rw [<- pdVals_app, List.take_append_drop]
  have ht : (pdVals (q.take (i + 1))).length = (i + 1) * 2 := by rw [pdVals_len, List.length_take]; omega
  rw [hs, List.getElem?_append_right (by omega), ht, Nat.add_sub_cancel_left]
  exact hu
 obtain ⟨ad, had, hn2⟩ : ∃ ad : Addr, (if k = i + 1 then some (⟨g, 0, none⟩ : Addr) else some ⟨g, (i + 1) * 2, none⟩) = some ad /\ ∀ j u, (pdVals (q.drop (i + 1)))[j]? = some u -> w.cell? (ad.add j) = some u := by
  by_cases hk : k = i + 1
  ·refine ⟨_, if_pos hk, fun j u hu => ?_⟩
   rw [List.drop_eq_nil_of_le (by omega)] at hu
   cases hu
  ·exact ⟨_, if_neg hk, fun j u hu => by rw [Addr.add_lit]; exact hn j u hu⟩
 have HN := Lh hn2
 have HA := Lh had
 have e0 : (0 : Int) <= i := by omega
 have e1 : (i : Int) <= ((i : Int) + 1) := by omega
 have e2 : ((i : Int) + 1) <= q.length := by omega
 have e3 : (q.length : Int) <= k := by omega
 have e4 : (i : Int) <= k := by omega
 have e5 : (i : Int) <= q.length := by omega
 have e6 : (0 : Int) <= ((i : Int) + 1) := by omega
 have d1 : ((i : Int) == ((i : Int) + 1)) = false := by simp; omega
 have d2 : decide ((i : Int) = ((i : Int) + 1)) = false := by simp; omega
 clear h hn hn2 had
 go_enter Tryz.func99, Tryz.ntmps99
 have e7 : i <= k := by omega
 have e8 : i + 1 <= q.length := hi
 have e9 : i + 1 <= k := by omega
 go_wp2_with fail
 go_region_law (first
  | (refine step_fit _ (by rfl) _ _ 161 (by rfl) 0 180 i0 2 Tryz.underlying161 hi0 hi0s g i k (pdVals (q.take i)) (by rfl) (HC.o.below (Below.refl _ _).drew) ad (q.length - (i + 1)) (k - (i + 1)) (pdVals (q.drop (i + 1))) (by rw [<- HA.o]; rfl) (by rw [pdVals_len, List.length_drop]) HN.o (pdVals_one _) (by omega) (q.length - 1) (by omega) (pdVals q9) her.out ?_
     intro W9 ho9 hg9))
 have HO9 := Lh ho9
 have HG9 := Lh hg9
 clear ho9 hg9
 have f1 := own_room HO9.o (show (q.length - 1) * 2 < k * 2 by omega)
 have f2 := own_room HO9.o (show (q.length - 1) * 2 + 1 < k * 2 by omega)
 have hcl : ∀ ty, (Builtin.clear_ #[161] ty #[.slice (some ⟨g, (q.length - 1) * 2, none⟩) 1 (k - (q.length - 1))]).run Tryz.prog W9 = .ok (.tuple #[]) (W9.setCells g ((q.length - 1) * 2) [.int .i64 0, .int .i64 0]) := fun ty => clear_pd W9 ty g _ _ f1 f2
 have e10 : ¬ k = q.length - 1 := by omega
 have e11 : q.length - (q.length - 1) = 1 := by omega
 have e12 : ((q.length - 1 : Nat) : Int) <= q.length := by omega
 have e13 : (0 : Int) <= ((q.length - 1 : Nat) : Int) := by omega
 have e14 : q.length - 1 <= q.length := by omega
 have hb1 := own_beyond HO9.o (Nat.le_refl _) (.int .i64 0)
 have HB1 := Lh hb1.2
 have HB := Lh (own_beyond hb1.1 (j := (q.length - 1) * 2 + 1) (by omega) (.int .i64 0))
 clear f1 f2 hb1
 go_wp2_with fail
 all_goals (
  go_ret
  (try (have h9 := ‹k = i + 1›; subst h9))
  refine ⟨by rw [HLn.o]; rfl, ?_, ?_⟩
  ·rw [HLn.o]
   exact HB.o.1
  ·exact grown_trans (grown_trans (a := w) ⟨HG9.o.os, HG9.o.tape, HG9.o.output, HG9.o.size, HG9.o.block⟩ HB1.o) HB.o.2)
end Go.Proofs.YtgjdgapfnfhklaaGreat
namespace Go.Proofs.YtgjdgapfnfhklaaGreat
open Go.RowKit
theorem own_lowF {w : World} {base base' e size n : Nat} {v : Value} {xs : List Value} (h : w.ownsRow base e size v n xs) (hb : base' <= base) : w.ownsRow base' e size v n xs := ⟨h.1, h.2.imp id fun ⟨g, cap, cur, e1, h1, h2⟩ => ⟨g, cap, cur, e1, Nat.le_trans hb h1, h2⟩⟩
def flatAt (S : LS) (j : Nat) : List Int := S.ws ++ (List.range j).flatMap fun t => [S.r t 0, S.r t 1, S.r t 2, S.r t 3, (S.p t : Int), 0]
theorem flatAt_next (S : LS) (j : Nat) : ints (flatAt S (j + 1)) = ints (flatAt S j) ++ [.int .i64 (S.r j 0), .int .i64 (S.r j 1), .int .i64 (S.r j 2), .int .i64 (S.r j 3), .int .i64 (S.p j), .int .i64 0] := by
 unfold flatAt
 rw [List.range_succ, List.flatMap_append]
 simp [ints]
theorem flatAt_len {S : LS} {nw : Nat} (h : S.ws.length = nw) : ∀ j, (flatAt S j).length = nw + 6 * j
 | 0 => by simp [flatAt, h]
 | j + 1 => by
  have := flatAt_len h j
  unfold flatAt at this ⊢
  rw [List.range_succ, List.flatMap_append]
  simp at this ⊢
  omega
def FltR (xs : List Int) (w : World) (e : Ending) (w' : World) : Prop := ∃ A k, e = .returned (.slice A xs.length k) /\ w'.ownsRow w.heap.size 3 1 (.slice A xs.length k) xs.length (ints xs) /\ Below w.heap.size w w'
theorem row_one (a b c d e f : Int) : ∀ u ∈ [Value.int .i64 a, .int .i64 b, .int .i64 c, .int .i64 d, .int .i64 e, .int .i64 f], u.oneCell' = true := by
 intro u hu
 simp at hu
 rcases hu with rfl | rfl | rfl | rfl | rfl | rfl <;> rfl
theorem info_iF : (Tryz.prog.info? 3).map (fun i => (i.zero, i.size, i.bytes)) = some (some (.int .i64 0), 1, 8) := by kernel_rfl
theorem flat19_any (h : SH) (n nw : Nat) (S : LS) (w : World) (hs : StAt w h n nw S) (hn : n <= 4) (hnw : nw <= 6) :
  Calls Tryz.prog 47 #[stV h n nw] w (FltR (flatAt S n) w) := by
 obtain ⟨w0, hw0⟩ : ∃ w0 : World, w0 = w.alloc (.cells #[.slice (some ⟨h.gw, 0, none⟩) nw h.kw, .slice (some ⟨h.gr, 0, none⟩) n h.kr, .slice (some ⟨h.gp, 0, none⟩) n h.kp, .slice (some ⟨h.gb, 0, none⟩) n h.kb] 77) := ⟨_, rfl⟩
 have HZ0 : Hid (Blk w0 w.heap.size 77 (stL h n nw)) := by rw [hw0]; exact Lh (Blk.new w 77 (stL h n nw))
 have HW0 : Hid (Below w.heap.size w w0) := by rw [hw0]; exact Lh ((Below.refl _ _).alloc (Nat.le_refl _) _)
 have HS0 := Lh (hs.on HW0.o)
 have HWe := Lh hw0
 have HL := Lh (flatAt_len hs.wlen n)
 have hz0 : w.heap.size < w0.heap.size := HZ0.o.lt
 obtain ⟨ii, hii, hiiz, hiis, hiib⟩ := info_parts info_iF
 clear hs hw0
 go_enter Tryz.func47, Tryz.ntmps47
 go_upto_region 1 with fail
 rw [<- HWe.o]
 clear HWe
 have c0 := HZ0.o.cell (i := 0) rfl
 go_upto_region 3 with (at_builtin; go_must (refine wpList_app _ rfl _ _ 22 rfl w0.heap.size 3 ii (.int .i64 0) 1 8 Tryz.underlying22 hii hiiz hiis hiib rfl (by decide) (.slice none 0 0) 0 [] rfl (World.ownsRow_nil _ _ _ _) w0.heap.size (some ⟨h.gw, 0, none⟩) nw h.kw (ints S.ws) rfl HS0.o.w.sl ints_oneI (nw + 6 * 0) (by omega) (ints (flatAt S 0)) (by simp [flatAt]) _ rfl (by simp only [maxLen]; omega) (by omega) (Nat.le_refl _) ?_; intro A0 k0 w1 hown hg hat hk7 hk8))
 have HO1 := Lh hown
 have HB1 : Hid (Below w0.heap.size w0 w1) := Lh ((Below.refl _ _).grown hg (Nat.le_refl _) (fun q hq => by cases hq))
 clear hown hg hat c0
 go_wp2_with fail
 go_loopg [3, 4] n (fun gk v i wr => ∃ (j : Nat) (v9 : Value), j + gk = n /\ i = .int .i64 j /\ v = v9 /\ Hid (wr.ownsRow w0.heap.size 3 1 v9 (nw + 6 * j) (ints (flatAt S j))) /\ Hid (Below w0.heap.size w0 wr))
 case atStart => exact ⟨0, _, by omega, rfl, rfl, HO1, HB1⟩
 case round =>
  obtain ⟨j, v, hj, rfl, hv9, HO, HB⟩ := hrel
  subst hv9
  have c1 := (HZ0.o.below HB.o HZ0.o.lt).cell (i := 1) rfl
  by_cases hlt : j < n
  ·have e1 : (j : Int) < n := by omega
   have e0 : (0 : Int) <= j := by omega
   have d1 : decide (j < n) = true := by simpa using hlt
   have HSo : Hid (∀ W, Below w0.heap.size w0 W -> W.cell? ⟨w.heap.size, 1, none⟩ = some (.slice (some ⟨h.gr, 0, none⟩) n h.kr) /\ W.cell? ⟨w.heap.size, 2, none⟩ = some (.slice (some ⟨h.gp, 0, none⟩) n h.kp) /\ W.cell? ⟨w.heap.size, 3, none⟩ = some (.slice (some ⟨h.gb, 0, none⟩) n h.kb) /\ W.cell? ⟨h.gr, j * 4, none⟩ = some (.int .i64 (S.r j 0)) /\ W.cell? ⟨h.gr, j * 4 + 1, none⟩ = some (.int .i64 (S.r j 1)) /\ W.cell? ⟨h.gr, j * 4 + 2, none⟩ = some (.int .i64 (S.r j 2)) /\ W.cell? ⟨h.gr, j * 4 + 3, none⟩ = some (.int .i64 (S.r j 3)) /\ W.cell? ⟨h.gp, j, none⟩ = some (.int .i64 (S.p j)) /\ W.cell? ⟨h.gb, j, none⟩ = some (.slice none 0 0)) := Lh fun W hW => by
    have hs := HS0.o.on hW
    have hz := HZ0.o.below hW HZ0.o.lt
    have hr : ∀ q, q < 4 -> W.cell? ⟨h.gr, j * 4 + q, none⟩ = some (.int .i64 (S.r j q)) := fun q hq => hs.reg (LS.r_at (S := S) (t := j) (q := q) (by rw [hs.rlen]; omega))
    exact ⟨hz.cell rfl, hz.cell rfl, hz.cell rfl, hr 0 (by omega), hr 1 (by omega), hr 2 (by omega), hr 3 (by omega), hs.place (LS.p_at (S := S) (t := j) (by rw [hs.plen]; exact hlt)), hs.buf hlt⟩
   obtain ⟨A, k, hv, hk1, hk2⟩ := own_form HO.o
   subst hv
   go_upto_region 6 with fail
   clear c1
   refine wp_region_held_drew (S := fun W => W.cell? ⟨w.heap.size, 1, none⟩ = some (.slice (some ⟨h.gr, 0, none⟩) n h.kr) /\ W.cell? ⟨w.heap.size, 2, none⟩ = some (.slice (some ⟨h.gp, 0, none⟩) n h.kp) /\ W.cell? ⟨w.heap.size, 3, none⟩ = some (.slice (some ⟨h.gb, 0, none⟩) n h.kb) /\ W.cell? ⟨h.gr, j * 4, none⟩ = some (.int .i64 (S.r j 0)) /\ W.cell? ⟨h.gr, j * 4 + 1, none⟩ = some (.int .i64 (S.r j 1)) /\ W.cell? ⟨h.gr, j * 4 + 2, none⟩ = some (.int .i64 (S.r j 2)) /\ W.cell? ⟨h.gr, j * 4 + 3, none⟩ = some (.int .i64 (S.r j 3)) /\ W.cell? ⟨h.gp, j, none⟩ = some (.int .i64 (S.p j)) /\ W.cell? ⟨h.gb, j, none⟩ = some (.slice none 0 0)) (by kernel_rfl) (HSo.o _ HB.o.drew) (fun hS => ?_)
   iterate 36 (refine tkF 0 (v := ?_) ?_ ?_; rotate_left; · (intro W hSw; (try dsimp only at hSw); go_simp; try with_reducible rfl); try simp only [Act.put, List.setIfInBounds_toArray, List.set_cons_zero, List.set_cons_succ])
   obtain ⟨V, hV9, HVb, HVo⟩ : ∃ Z9, Z9 = wr.drew /\ Hid (Below w0.heap.size w0 Z9) /\ Hid (Z9.ownsRow w0.heap.size 3 1 (.slice A (nw + 6 * j) k) (nw + 6 * j) (ints (flatAt S j))) := ⟨_, rfl, HB.o.drew, Lh (HO.o.below (Below.refl _ _).drew)⟩
   rw [<- hV9]
   clear hV9
   refine rd 36 fun K1 hK1 => ?_
   go_simp
   have hbA := HVb.o.alloc HVb.o.size (.cells #[.int .i64 (S.r j 0), .int .i64 (S.r j 1), .int .i64 (S.r j 2), .int .i64 (S.r j 3), .int .i64 (S.p j), .int .i64 0] 3)
   refine hK1.out _ _ (HSo.o _ hbA) (fun _ => ?_)
   refine rd1 37 fun K2 hK2 => ?_
   refine step_app _ (by rfl) _ _ 22 (by rfl) w0.heap.size 3 ii (.int .i64 0) 1 8 Tryz.underlying22 hii hiiz hiis hiib rfl (by decide) (.slice A (nw + 6 * j) k) (nw + 6 * j) (ints (flatAt S j)) (by rfl) (HVo.o.alloc _) (V.heap.size + 1) (some ⟨V.heap.size, 0, none⟩) 6 6 [.int .i64 (S.r j 0), .int .i64 (S.r j 1), .int .i64 (S.r j 2), .int .i64 (S.r j 3), .int .i64 (S.p j), .int .i64 0] (by rfl) (((Blk.new V 3 _).sl rfl).up (by simp)) (row_one _ _ _ _ _ _) (nw + 6 * (j + 1)) (by omega) _ rfl _ rfl (by simp only [maxLen]; omega) (by omega) (by have := HVb.o.size; rw [World.size_alloc]; omega) ?_
   intro A9 k9 W9 hown9 hg9 hat9 hk91 hk92
   have hbB : Below w0.heap.size w0 W9 := hbA.grown hg9 hbA.size (fun q hq => (HVo.o.lt q hq).1)
   refine hK2.out _ _ (HSo.o _ hbB) (fun hS4 => ?_)
   refine tkF 38 (v := ?_) ?_ ?_
   rotate_left
   ·(intro W hSw; (try dsimp only at hSw); go_simp; try with_reducible rfl)
   try simp only [Act.put, List.setIfInBounds_toArray, List.set_cons_zero, List.set_cons_succ]
   refine wpAnyH_done (by kernel_rfl) ?_ _
   have HO9 : Hid (W9.ownsRow w0.heap.size 3 1 (.slice A9 (nw + 6 * (j + 1)) k9) (nw + 6 * (j + 1)) (ints (flatAt S (j + 1)))) := by rw [flatAt_next]; exact Lh hown9
   have HB9 := Lh hbB
   have z3 : W9.cell? ⟨w.heap.size, 3, none⟩ = some (.slice (some ⟨h.gb, 0, none⟩) n h.kb) := hS4.2.2.1
   have z9 : W9.cell? ⟨h.gb, j, none⟩ = some (.slice none 0 0) := hS4.2.2.2.2.2.2.2.2
   clear hS4 hbB hbA hown9 hg9 hat9 hS HSo HVo HVb HO HB
   go_wp2_with fail
   obtain ⟨ga, rfl⟩ : ∃ ga : Nat, ga = gk := ⟨_, rfl⟩
   go_loopg [3, 5] 0 (fun gk v i wr => v = .slice A9 (nw + 6 * (j + 1)) k9 /\ i = .int .i64 0 /\ wr = W9)
   case atStart => exact ⟨rfl, rfl, rfl⟩
   case round =>
    obtain ⟨rfl, rfl, rfl⟩ := hrel
    go_wp2_with fail
    go_roundg (ga - 1)
    case measure => omega
    case rel => exact ⟨j + 1, _, by omega, by go_num, rfl, HO9, HB9⟩
  ·obtain rfl : j = n := by omega
   obtain ⟨A, k, hv, hk1, hk2⟩ := own_form HO.o
   subst hv
   go_wp2_with fail
   go_ret
   refine ⟨A, k, congrArg (fun N => Ending.returned (Value.slice A N k)) HL.o.symm, ?_, HW0.o.trans (HB.o.mono HW0.o.size)⟩
   rw [HL.o]
   exact own_lowF HO.o HW0.o.size
end Go.Proofs.YtgjdgapfnfhklaaGreat
