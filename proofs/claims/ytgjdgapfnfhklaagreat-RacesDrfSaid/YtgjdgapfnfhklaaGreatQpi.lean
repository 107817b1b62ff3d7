/-
tso.pictureOf: a state with buffers as an array of numbers.
-/
import Derived.Test.YtgjdgapfnfhklaaGreatZ18
import Derived.Test.YtgjdgapfnfhklaaGreatZ24
import Derived.Great.Walk
import Derived.Great.BuildSlice
import Derived.Deep.RegionLaw
set_option linter.unusedSimpArgs false
set_option linter.unusedVariables false
set_option maxRecDepth 100000
set_option maxHeartbeats 8000000
namespace Go.Proofs.YtgjdgapfnfhklaaGreat
open Go.RowKit
def padI (L : List Int) : List Value := ints L ++ List.replicate (110 - L.length) (.int .i64 0)
theorem padI_len {L : List Int} (h : L.length <= 110) : (padI L).length = 110 := by unfold padI; rw [List.length_append, ints_len, List.length_replicate]; omega
theorem padI_set {L : List Int} (h : L.length < 110) (z : Int) : (padI L).set L.length (.int .i64 z) = padI (L ++ [z]) := by
 unfold padI
 obtain ⟨k, hk⟩ : ∃ k, 110 - L.length = k + 1 := ⟨109 - L.length, by omega⟩
 rw [List.set_append_right _ _ (by rw [ints_len]; exact Nat.le_refl _), ints_len, Nat.sub_self, hk, List.replicate_succ, List.set_cons_zero, show 110 - (L ++ [z]).length = k by rw [List.length_append, List.length_singleton]; omega]
 simp [ints]
theorem padI_copy {L : List Int} (h : L.length <= 110) : splice (padI []) 0 (ints L) = padI L := by
 unfold splice padI
 rw [List.take_zero, List.nil_append, Nat.zero_add, ints_len]
 show ints L ++ (List.drop L.length ([] ++ List.replicate (110 - 0) (Value.int .i64 0))) = _
 rw [List.nil_append, List.drop_replicate, Nat.sub_zero]
def thrL (S : LS) (q : List Pd) (t : Nat) : List Int := [S.r t 0, S.r t 1, S.r t 2, S.r t 3, (S.p t : Int), (q.length : Int)] ++ q.flatMap fun p => [(p.1 : Int), p.2]
def picB (B : BS) : Nat -> List Int
 | 0 => B.S.ws
 | t + 1 => picB B t ++ thrL B.S (B.b t) t
theorem pfl_len (q : List Pd) : (q.flatMap fun p => [(p.1 : Int), p.2]).length = q.length * 2 := by
 induction q with
 | nil => rfl
 | cons a q ih => rw [List.flatMap_cons, List.length_append, ih, List.length_cons]; simp; omega
theorem thrL_len (S : LS) (q : List Pd) (t : Nat) : (thrL S q t).length = 6 + q.length * 2 := by unfold thrL; rw [List.length_append, pfl_len]; rfl
structure PicI (L : List Int) (gp ga : Nat) (W : World) : Prop where
 p : Blk W gp 157 (padI L)
 a : Blk W ga 3 [.int .i64 (L.length : Int)]
theorem PicI.on {L : List Int} {gp ga : Nat} {W W' : World} (h : PicI L gp ga W) (hb : Below W.heap.size W W') : PicI L gp ga W' := ⟨h.p.below hb h.p.lt, h.a.below hb h.a.lt⟩
theorem add_cellP {W : World} {g : Nat} {cs : List Value} (hc : ∀ j v, cs[j]? = some v -> W.cell? ⟨g, j, none⟩ = some v) : ∀ j v, cs[j]? = some v -> W.cell? ((⟨g, 0, none⟩ : Addr).add j) = some v := fun j v hv => by
 rw [Addr.add_mid, Nat.zero_add]
 exact hc j v hv
theorem padI_one (L : List Int) : (padI L).toArray.all (·.oneCell') = true := by
 rw [List.all_toArray, List.all_eq_true]
 intro u hu
 unfold padI at hu
 rcases List.mem_append.1 hu with hu | hu
 ·obtain ⟨x, _, rfl⟩ := List.mem_map.1 hu
  rfl
 ·rw [(List.mem_replicate.1 hu).2]
  rfl
theorem b_mapP {bs : List Bf} {t : Nat} {y : Bf} (hy : bs[t]? = some y) {S : LS} : BS.b ⟨S, bs.map (·.q)⟩ t = y.q := by
 show (bs.map (·.q)).getD t [] = _
 rw [List.getD_eq_getElem?_getD, List.getElem?_map, hy]
 rfl
theorem ints_oneP (l : List Int) : ∀ u ∈ ints l, u.oneCell' = true := by
 intro u hu
 obtain ⟨x, _, rfl⟩ := List.mem_map.1 hu
 rfl
def PutP (L : List Int) (gp ga : Nat) (W : World) (e : Ending) (w' : World) : Prop := e = .returned (.tuple #[]) /\ PicI L gp ga w' /\ (∀ B, B <= gp -> B <= ga -> Below B W w') /\ ∀ g, g < W.heap.size -> g ≠ gp -> g ≠ ga -> w'.heap[g]? = W.heap[g]?
theorem putP_any (L : List Int) (gp ga : Nat) (z : Int) (W : World) (h : PicI L gp ga W) (hl : L.length < 110) :
  Calls Tryz.prog 74 #[.int .i64 z, .pointer (some ⟨gp, 0, none⟩), .pointer (some ⟨ga, 0, none⟩)] W (PutP (L ++ [z]) gp ga W) := by
 have hne : gp ≠ ga := by
  intro e
  have h1 := h.p
  have h2 := h.a
  unfold Blk at h1 h2
  rw [e, h2] at h1
  injection h1 with h1
  injection h1 with _ h1
  exact absurd h1 (by decide)
 have a0 := h.a.cell (i := 0) rfl
 have p0 : W.frozen? ⟨gp, L.length, none⟩ = false := h.p.frozen _
 obtain ⟨v0, hv0⟩ : ∃ v, (padI L)[L.length]? = some v := ⟨_, List.getElem?_eq_getElem (by rw [padI_len (by omega)]; omega)⟩
 have p1 : W.cell? ⟨gp, L.length, none⟩ = some v0 := h.p.cell hv0
 have a1 : (W.setCell ⟨gp, L.length, none⟩ (.int .i64 z)).cell? ⟨ga, 0, none⟩ = some (.int .i64 (L.length : Int)) := (h.a.far (p := ⟨gp, L.length, none⟩) (Ne.symm hne) _).cell rfl
 have a2 : (W.setCell ⟨gp, L.length, none⟩ (.int .i64 z)).frozen? ⟨ga, 0, none⟩ = false := (h.a.far (p := ⟨gp, L.length, none⟩) (Ne.symm hne) _).frozen _
 have e0 : (0 : Int) <= L.length := by omega
 have e1 : (L.length : Int) < 110 := by omega
 have x1 : IntKind.i64.wrap ((L.length : Int) + 1) = (L.length : Int) + 1 := IntWalk.i64_in _ (by omega)
 have HI := Lh h
 clear h hv0
 go_enter Tryz.func74, Tryz.ntmps74
 go_wp2_with fail
 go_end0
 refine ⟨rfl, ⟨?_, ?_⟩, fun B h1 h2 => ((Below.refl B W).setCell (p := ⟨gp, L.length, none⟩) h1 _).setCell (p := ⟨ga, 0, none⟩) h2 _, fun g _ h1 h2 => (Below.heap_setCell _ ⟨ga, 0, none⟩ _ g h2).trans (Below.heap_setCell _ ⟨gp, L.length, none⟩ _ g h1)⟩
 ·have h9 := (HI.o.p.set_ L.length (.int .i64 z)).far (p := ⟨ga, 0, none⟩) hne (.int .i64 ((L.length : Int) + 1))
  rw [padI_set hl] at h9
  exact h9
 ·have h9 := (HI.o.a.far (p := ⟨gp, L.length, none⟩) (Ne.symm hne) (.int .i64 z)).set_ 0 (.int .i64 ((L.length : Int) + 1))
  have e9 : ((L ++ [z]).length : Int) = (L.length : Int) + 1 := by simp
  rw [e9]
  exact h9
theorem padI_nil : padI [] = List.replicate 110 (Value.int .i64 0) := rfl
theorem zero_pt (w : World) : (zeroValue 157).run Tryz.prog w = .ok (.agg (padI []).toArray) w := by
 have h : (Tryz.prog.info? 157).map (fun i => (i.zero, i.size)) = some (some (.agg (padI []).toArray), 110) := by rw [padI_nil]; kernel_rfl
 exact (zero_of_info h).1 w
theorem exec_alloc_pt {ρ : Operand -> Value} {o : Oper} {w : World} (ho : o.op = .alloc 157) : (execOp ρ o).run Tryz.prog w = .ok (.value (.pointer (some ⟨w.heap.size, 0, none⟩))) (w.alloc (.cells (padI []).toArray 157)) := by
 unfold execOp
 simp only [ho, Sem.run_bind]
 rw [show (Instr.alloc 157 true (.tuple #[])).run Tryz.prog w = .ok (.pointer (some ⟨w.heap.size, 0, none⟩)) (w.alloc (.cells (padI []).toArray 157)) from by
  simp [Instr.alloc, newVar, zero_pt, Value.cells, newRow]
  rfl]
 rfl
theorem size_pt : (Tryz.prog.info? 157).map (·.size) = some 110 := by kernel_rfl
theorem size_intP : (Tryz.prog.info? 3).map (·.size) = some 1 := by kernel_rfl
structure PicW (w : World) (h : SH) (n nw : Nat) (L : List Int) (gp ga : Nat) (W : World) : Prop where
 i : PicI L gp ga W
 bel : Below w.heap.size w W
 st : Blk W w.heap.size 77 (stL h n nw)
 rs : Blk W (w.heap.size + 1) 157 (padI [])
 gp : w.heap.size + 2 <= gp
 ga : w.heap.size + 2 <= ga
theorem PicW.on {w W W' : World} {h : SH} {n nw gp ga : Nat} {L : List Int} (H : PicW w h n nw L gp ga W) (hb : Below W.heap.size W W') : PicW w h n nw L gp ga W' := ⟨H.i.on hb, H.bel.trans (hb.mono H.bel.size), H.st.below hb H.st.lt, H.rs.below hb H.rs.lt, H.gp, H.ga⟩
theorem PicW.put {w W W' : World} {h : SH} {n nw gp ga : Nat} {L L' : List Int} {e : Ending} (H : PicW w h n nw L gp ga W) (hp : PutP L' gp ga W e W') : PicW w h n nw L' gp ga W' := by
 have hb := hp.2.2.1 (w.heap.size + 2) H.gp H.ga
 exact ⟨hp.2.1, H.bel.trans (hb.mono (by omega)), H.st.below hb (by omega), H.rs.below hb (by omega), H.gp, H.ga⟩
theorem ix4_0 (a b c d : Int) (w : World) : (Instr.index 96 (.agg #[.int .i64 a, .int .i64 b, .int .i64 c, .int .i64 d]) (.int .i64 0)).run Tryz.prog w = .ok (.int .i64 a) w := by simp [Instr.index, asIntOf, part, go_sem]
theorem ix4_1 (a b c d : Int) (w : World) : (Instr.index 96 (.agg #[.int .i64 a, .int .i64 b, .int .i64 c, .int .i64 d]) (.int .i64 1)).run Tryz.prog w = .ok (.int .i64 b) w := by simp [Instr.index, asIntOf, part, go_sem]
theorem ix4_2 (a b c d : Int) (w : World) : (Instr.index 96 (.agg #[.int .i64 a, .int .i64 b, .int .i64 c, .int .i64 d]) (.int .i64 2)).run Tryz.prog w = .ok (.int .i64 c) w := by simp [Instr.index, asIntOf, part, go_sem]
theorem ix4_3 (a b c d : Int) (w : World) : (Instr.index 96 (.agg #[.int .i64 a, .int .i64 b, .int .i64 c, .int .i64 d]) (.int .i64 3)).run Tryz.prog w = .ok (.int .i64 d) w := by simp [Instr.index, asIntOf, part, go_sem]
def PicR (L : List Int) (w : World) (e : Ending) (w' : World) : Prop := e = .returned (.agg (padI L).toArray) /\ Below w.heap.size w w'
theorem pic_q (h : SH) (n nw : Nat) (S : LS) (bs : List Bf) (w : World) (hs : StQ w h n nw S bs) (hq : ∀ x ∈ bs, x.q.length <= 10) (hn4 : n <= 4) (hw6 : nw <= 6) :
  Calls Tryz.prog 59 #[stV h n nw] w (PicR (picB ⟨S, bs.map (·.q)⟩ n) w) := by
 have HS := Lh hs
 have HQ := Lh hq
 have hwl : S.ws.length = nw := hs.wlen
 clear hs hq
 go_enter Tryz.func59, Tryz.ntmps59
 go_upto_region 2 with (refine Great.wpList_allocTo rfl _ rfl _ (.cells (padI []).toArray 157) (exec_alloc_pt rfl) ?_)
 (try simp only [Act.put, List.setIfInBounds_toArray, List.set_cons_zero, List.set_cons_succ])
 obtain ⟨w3, hw3, HB3, HR3, HP3, HX3, hz3⟩ : ∃ Z9, Z9 = ((w.alloc (.cells #[.slice (some ⟨h.gw, 0, none⟩) nw h.kw, .slice (some ⟨h.gr, 0, none⟩) n h.kr, .slice (some ⟨h.gp, 0, none⟩) n h.kp, .slice (some ⟨h.gb, 0, none⟩) n h.kb] 77)).alloc (.cells (padI []).toArray 157)).alloc (.cells (padI []).toArray 157) /\ Hid (Blk Z9 w.heap.size 77 (stL h n nw)) /\ Hid (Blk Z9 (w.heap.size + 1) 157 (padI [])) /\ Hid (Blk Z9 (w.heap.size + 2) 157 (padI [])) /\ Hid (Below w.heap.size w Z9) /\ Z9.heap.size = w.heap.size + 3 := by
  have h1 := Blk.new (w.alloc (.cells #[.slice (some ⟨h.gw, 0, none⟩) nw h.kw, .slice (some ⟨h.gr, 0, none⟩) n h.kr, .slice (some ⟨h.gp, 0, none⟩) n h.kp, .slice (some ⟨h.gb, 0, none⟩) n h.kb] 77)) 157 (padI [])
  have h2 := Blk.new ((w.alloc (.cells #[.slice (some ⟨h.gw, 0, none⟩) nw h.kw, .slice (some ⟨h.gr, 0, none⟩) n h.kr, .slice (some ⟨h.gp, 0, none⟩) n h.kp, .slice (some ⟨h.gb, 0, none⟩) n h.kb] 77)).alloc (.cells (padI []).toArray 157)) 157 (padI [])
  rw [World.size_alloc] at h1
  rw [World.size_alloc, World.size_alloc] at h2
  exact ⟨_, rfl, ((Blk.new w 77 (stL h n nw)).alloc _).alloc _, h1.alloc _, h2, (((Below.refl _ _).alloc (Nat.le_refl _) _).alloc (by simp) _).alloc (by simp; omega) _, by simp [World.size_alloc]⟩
 rw [<- hw3]
 (try simp only [World.size_alloc, Nat.add_assoc, Nat.reduceAdd])
 clear hw3
 have HS3 := Lh (HS.o.on HX3.o)
 have s0 := HB3.o.cell (i := 0) rfl
 go_cut [4] (fun s4 wc => ∃ ga, s4 = .pointer (some ⟨ga, 0, none⟩) /\ Hid (PicW w h n nw S.ws (w.heap.size + 2) ga wc))
 case first =>
  have hl0 : (ints S.ws).length = nw * 1 := by rw [ints_len, hwl]; omega
  have hpl : (padI ([] : List Int)).length = 110 := padI_len (by simp)
  go_region_law (first
   | (refine step_copy_q (by rfl) _ _ 22 22 (by rfl) 3 1 nw Tryz.underlying22 size_intP (w.heap.size + 2) 0 110 110 ⟨h.gw, 0, none⟩ nw h.kw (by rfl) (by rfl) (padI []) 157 HP3.o (ints S.ws) (by show min nw 110 = nw; omega) hl0 (add_cellP (fun j v hv => HS3.o.w.cell hv)) (by rw [hl0, hpl]; omega) (ints_oneP _) ?_
      intro w4 hx4 hk4 hz4 ho4
      have hz5 : w4.heap.size = w.heap.size + 3 := hz4.trans hz3
      have F4 : Hid (Blk w4 (w.heap.size + 2) 157 (padI S.ws) /\ Below w.heap.size w w4 /\ Blk w4 w.heap.size 77 (stL h n nw) /\ Blk w4 (w.heap.size + 1) 157 (padI [])) := Lh ⟨by have h9 := hx4.out; rw [padI_copy (by omega)] at h9; exact h9, ⟨ho4.1.trans HX3.o.os, ho4.2.1.trans HX3.o.tape, ho4.2.2.trans HX3.o.output, by omega, fun k hk => (hk4 k (by omega)).trans (HX3.o.block k hk)⟩, HB3.o.kept (hk4 _ (by omega)), HR3.o.kept (hk4 _ (by omega))⟩
      have hB4 := Blk.new w4 3 [.int .i64 0]
      rw [hz5] at hB4
      have c4 := hB4.cell (i := 0) rfl
      have f4 := hB4.frozen 0
      clear hz4)
   | (refine step_copy_q (by rfl) _ _ 22 22 (by rfl) 3 1 nw Tryz.underlying22 size_intP (w.heap.size + 2) 0 110 110 ⟨h.gw, 0, none⟩ nw h.kw (by rfl) (by rfl) (padI []) 157 (HP3.o.alloc (.cells #[.int .i64 0] 3)) (ints S.ws) (by show min nw 110 = nw; omega) hl0 (add_cellP (fun j v hv => (HS3.o.w.on ((Below.refl _ _).alloc (Nat.le_refl _) _)).cell hv)) (by rw [hl0, hpl]; omega) (ints_oneP _) ?_
      intro w4 hx4 hk4 hz4 ho4
      have hz5 : w4.heap.size = w.heap.size + 4 := hz4.trans (by simp [hz3])
      have F4 : Hid (Blk w4 (w.heap.size + 2) 157 (padI S.ws) /\ Below w.heap.size w w4 /\ Blk w4 w.heap.size 77 (stL h n nw) /\ Blk w4 (w.heap.size + 1) 157 (padI [])) := Lh ⟨by have h9 := hx4.out; rw [padI_copy (by omega)] at h9; exact h9, ⟨ho4.1.trans HX3.o.os, ho4.2.1.trans HX3.o.tape, ho4.2.2.trans HX3.o.output, by omega, fun k hk => (hk4 k (by omega)).trans ((Below.heap_alloc w3.drew _ k (by show k < w3.heap.size; omega)).trans (HX3.o.block k hk))⟩, (HB3.o.alloc (.cells #[.int .i64 0] 3)).kept (hk4 _ (by omega)), (HR3.o.alloc (.cells #[.int .i64 0] 3)).kept (hk4 _ (by omega))⟩
      have hB4 : Blk w4 w3.heap.size 3 [.int .i64 0] := (Blk.new w3.drew 3 [.int .i64 0]).kept (hk4 _ (by show w3.heap.size ≠ _; omega))
      rw [hz3] at hB4
      have c4 := hB4.cell (i := 0) rfl
      have f4 := hB4.frozen 0
      clear hz4))
  all_goals (
   go_wp2_with fail
   go_meet
   obtain ⟨p4, b4, t4, r4⟩ := F4.out
   refine ⟨_, rfl, ?_⟩
   have e9 : ((S.ws.length : Nat) : Int) = nw := by rw [hwl]
   first
    | (have h9 := Blk.new w4 3 [.int .i64 (nw : Int)]
       rw [hz5] at h9
       exact ⟨⟨p4.alloc _, by rw [e9]; exact h9⟩, b4.alloc b4.size _, t4.alloc _, r4.alloc _, Nat.le_refl _, by omega⟩)
    | (have h9 := hB4.set_ 0 (.int .i64 (nw : Int))
       exact ⟨⟨p4.far (by show w.heap.size + 2 ≠ w.heap.size + 3; omega) _, by rw [e9]; exact h9⟩, b4.setCell (by show w.heap.size <= w.heap.size + 3; omega) _, t4.far (by show w.heap.size ≠ w.heap.size + 3; omega) _, r4.far (by show w.heap.size + 1 ≠ w.heap.size + 3; omega) _, Nat.le_refl _, by omega⟩))
 case rest =>
  obtain ⟨ga, rfl, HC⟩ := hcut
  obtain ⟨wd, rfl⟩ : ∃ wd : World, wd = wc := ⟨_, rfl⟩
  clear s0 HB3 HR3 HP3 HX3 HS3 hz3
  have hmf : ∀ fn first cap w, (Instr.makeFunc fn first cap).run Tryz.prog w = .ok (.func fn first cap) w := fun _ _ _ _ => rfl
  have s1 := HC.o.st.cell (i := 1) rfl
  go_wp2_with fail
  clear s1
  go_loopg [19] n (fun gk i wr => ∃ (t : Nat) (L : List Int), t + gk = n /\ i = .int .i64 t /\ Hid (L = picB ⟨S, bs.map (·.q)⟩ t) /\ L.length <= 6 + 26 * t /\ Hid (PicW w h n nw L (w.heap.size + 2) ga wr))
  case atStart => exact ⟨0, S.ws, by omega, rfl, Lh rfl, by omega, HC⟩
  case round =>
   clear HC
   obtain ⟨t, L, ht, rfl, HL, hLl, HI⟩ := hrel
   by_cases hlt : t < n
   ·obtain ⟨y, hy⟩ := at_lt (show t < bs.length by rw [HS.o.blen]; exact hlt)
    have hyq := HQ.o y (List.mem_of_getElem? hy)
    have hyl := (HS.o.own y (List.mem_of_getElem? hy)).1
    obtain ⟨⟨A, yn, yk⟩, q⟩ := y
    dsimp only at hyq hyl
    subst hyl
    obtain ⟨g1, rfl⟩ : ∃ g1, g1 = gk := ⟨_, rfl⟩
    obtain ⟨wo, rfl⟩ : ∃ wo, wo = wr := ⟨_, rfl⟩
    have e1 : (t : Int) < n := by omega
    have e0 : (0 : Int) <= t := by omega
    have s1 := HI.o.st.cell (i := 1) rfl
    have hSo := HS.o.on HI.o.bel
    have r0 : wo.cell? ⟨h.gr, t * 4, none⟩ = some (.int .i64 (S.r t 0)) := hSo.regc (rg := 0) hlt (by omega)
    have r1 : wo.cell? ⟨h.gr, t * 4 + 1, none⟩ = some (.int .i64 (S.r t 1)) := hSo.regc hlt (by omega)
    have r2 : wo.cell? ⟨h.gr, t * 4 + 2, none⟩ = some (.int .i64 (S.r t 2)) := hSo.regc hlt (by omega)
    have r3 : wo.cell? ⟨h.gr, t * 4 + 3, none⟩ = some (.int .i64 (S.r t 3)) := hSo.regc hlt (by omega)
    go_wp2_with fail
    clear s1 r0 r1 r2 r3 hSo
    obtain ⟨R, hR⟩ : ∃ R, R = [S.r t 0, S.r t 1, S.r t 2, S.r t 3] := ⟨_, rfl⟩
    have HR := Lh hR
    have hRl : R.length = 4 := by rw [hR]; rfl
    clear hR
    go_loopg [27] 4 (fun gk i wr => ∃ k : Nat, k + gk = 4 /\ i = .int .i64 k /\ Hid (PicW w h n nw (L ++ R.take k) (w.heap.size + 2) ga wr))
    case atStart => exact ⟨0, by omega, rfl, by rw [List.take_zero, List.append_nil]; exact HI⟩
    case round =>
     obtain ⟨k, hk, rfl, HJ⟩ := hrel
     by_cases hlt4 : k < 4
     ·obtain ⟨z, hz⟩ := at_lt (show k < R.length by omega)
      have hRz : [S.r t 0, S.r t 1, S.r t 2, S.r t 3][k]? = some z := by rw [<- HR.o]; exact hz
      have hsn := take_snoc hz
      have hln : (L ++ R.take k).length < 110 := by rw [List.length_append, List.length_take]; omega
      have hp := putP_any (L ++ R.take k) (w.heap.size + 2) ga z wr HJ.o.i hln
      rw [List.append_assoc, <- hsn] at hp
      have HPt := Lh hp
      have e4 : (k : Int) < 4 := by omega
      have e5 : (0 : Int) <= k := by omega
      clear hp hsn
      obtain rfl | rfl | rfl | rfl : k = 0 ∨ k = 1 ∨ k = 2 ∨ k = 3 := by omega
      all_goals (
       simp only [List.getElem?_cons_zero, List.getElem?_cons_succ, Option.some.injEq] at hRz
       subst hRz
       have i0 := ix4_0 (S.r t 0) (S.r t 1) (S.r t 2) (S.r t 3)
       have i1 := ix4_1 (S.r t 0) (S.r t 1) (S.r t 2) (S.r t 3)
       have i2 := ix4_2 (S.r t 0) (S.r t 1) (S.r t 2) (S.r t 3)
       have i3 := ix4_3 (S.r t 0) (S.r t 1) (S.r t 2) (S.r t 3)
       go_wp2_with fail
       refine (HPt.o).mono ?_
       intro e w5 hp5
       have HP5 := Lh (HJ.o.put hp5)
       obtain ⟨rfl, _⟩ := hp5
       go_wp2_with fail
       go_roundg (gk - 1)
       case measure => omega
       case rel => exact ⟨_, by omega, by go_num, HP5⟩)
     ·obtain rfl : k = 4 := by omega
      rw [List.take_of_length_le (by omega)] at HJ
      have hSj := HS.o.on HJ.o.bel
      have s2 := HJ.o.st.cell (i := 2) rfl
      have p0 : wr.cell? ⟨h.gp, t, none⟩ = some (.int .i64 (S.p t)) := hSj.plc hlt
      clear hSj
      go_wp2_with fail
      refine (putP_any (L ++ R) (w.heap.size + 2) ga (S.p t) wr HJ.o.i (by rw [List.length_append]; omega)).mono ?_
      intro e w5 hp5
      have HJ5 := Lh (HJ.o.put hp5)
      obtain ⟨rfl, _⟩ := hp5
      clear s2 p0
      have hSj := HS.o.on HJ5.o.bel
      have s3 := HJ5.o.st.cell (i := 3) rfl
      have c0 : w5.cell? ⟨h.gb, t, none⟩ = some (.slice A q.length yk) := hSj.bufc hy
      clear hSj
      go_wp2_with fail
      refine (putP_any (L ++ R ++ [(S.p t : Int)]) (w.heap.size + 2) ga (q.length : Int) w5 HJ5.o.i (by rw [List.length_append, List.length_append]; simp; omega)).mono ?_
      intro e w6 hp6
      have HJ6 := Lh (HJ5.o.put hp6)
      obtain ⟨rfl, _⟩ := hp6
      clear s3 c0
      have hSj := HS.o.on HJ6.o.bel
      have s3 := HJ6.o.st.cell (i := 3) rfl
      have c0 : w6.cell? ⟨h.gb, t, none⟩ = some (.slice A q.length yk) := hSj.bufc hy
      clear hSj
      go_wp2_with fail
      obtain ⟨g2, rfl⟩ : ∃ g2, g2 = gk := ⟨_, rfl⟩
      clear s3 c0 HJ HJ5
      obtain ⟨M, hM⟩ : ∃ M, M = L ++ R ++ [(S.p t : Int)] ++ [(q.length : Int)] := ⟨_, rfl⟩
      rw [<- hM] at HJ6
      have hMl : M.length = L.length + 6 := by rw [hM, List.length_append, List.length_append, List.length_append, hRl]; rfl
      have HM := Lh hM
      clear hM
      go_loopg [55] q.length (fun gk i wr => ∃ k : Nat, k + gk = q.length /\ i = .int .i64 k /\ Hid (PicW w h n nw (M ++ (q.take k).flatMap fun p => [(p.1 : Int), p.2]) (w.heap.size + 2) ga wr))
      case atStart => exact ⟨0, by omega, rfl, by rw [List.take_zero]; show Hid (PicW w h n nw (M ++ []) _ _ _); rw [List.append_nil]; exact HJ6⟩
      case round =>
       clear HJ6
       obtain ⟨k, hk, rfl, HK⟩ := hrel
       by_cases hltq : k < q.length
       ·have e4 : (k : Int) < q.length := by omega
        have e5 : (0 : Int) <= k := by omega
        obtain ⟨p, hp⟩ := at_lt hltq
        have HSn : Hid ((q.take (k + 1)).flatMap (fun p => [(p.1 : Int), p.2]) = (q.take k).flatMap (fun p => [(p.1 : Int), p.2]) ++ [(p.1 : Int)] ++ [p.2]) := Lh (by rw [take_snoc hp, List.flatMap_append]; simp)
        have hlen : (M ++ (q.take k).flatMap fun p => [(p.1 : Int), p.2]).length + 1 < 110 := by
         rw [List.length_append, pfl_len, List.length_take, hMl]
         omega
        obtain ⟨g, hA, c0, c1⟩ := (HS.o.on HK.o.bel).el hy hp
        dsimp only at hA
        subst hA
        obtain ⟨N, hN⟩ : ∃ N, N = M ++ (q.take k).flatMap fun p => [(p.1 : Int), p.2] := ⟨_, rfl⟩
        rw [<- hN] at HK hlen
        have HN := Lh hN
        clear hN
        go_upto_region 17 with fail
        obtain ⟨gi, hgi⟩ : ∃ gi, gi = wr.heap.size := ⟨_, rfl⟩
        obtain ⟨X, hX, HX, HX5, hgl⟩ : ∃ Z9, Z9 = wr.alloc (.cells #[.int .i64 p.1, .int .i64 p.2] 180) /\ Hid (PicW w h n nw N (w.heap.size + 2) ga Z9) /\ Hid (Blk Z9 gi 180 [.int .i64 p.1, .int .i64 p.2]) /\ (gi ≠ w.heap.size + 2 /\ gi ≠ ga) := ⟨_, rfl, HK.o.on ((Below.refl _ _).alloc (Nat.le_refl _) _), by rw [hgi]; exact Blk.new _ _ _, by rw [hgi]; exact ⟨fun e => absurd HK.o.i.p.lt (by omega), fun e => absurd HK.o.i.a.lt (by omega)⟩⟩
        rw [<- hX, <- hgi]
        clear hX hgi c0 c1
        have b0 := HX5.o.cell (i := 0) rfl
        go_wp2_with fail
        refine (putP_any N (w.heap.size + 2) ga (p.1 : Int) X HX.o.i (by omega)).mono ?_
        intro e w7 hp7
        have HX7 := Lh (HX.o.put hp7)
        have hq7 := hp7.2.1
        have hfar : Blk w7 gi 180 [.int .i64 p.1, .int .i64 p.2] := HX5.o.kept (hp7.2.2.2 gi HX5.o.lt hgl.1 hgl.2)
        obtain ⟨rfl, _⟩ := hp7
        have b1 := hfar.cell (i := 1) rfl
        clear b0 hq7 hfar
        go_wp2_with fail
        refine (putP_any (N ++ [(p.1 : Int)]) (w.heap.size + 2) ga p.2 w7 HX7.o.i (by rw [List.length_append]; simp; omega)).mono ?_
        intro e w8 hp8
        have HX8 := Lh (HX7.o.put hp8)
        obtain ⟨rfl, _⟩ := hp8
        go_wp2_with fail
        go_roundg (gk - 1)
        case measure => omega
        case rel => exact ⟨k + 1, by omega, by go_num, by rw [HSn.o, <- List.append_assoc, <- List.append_assoc, <- HN.o]; exact HX8⟩
       ·obtain rfl : k = q.length := by omega
        rw [List.take_length] at HK
        go_wp2_with fail
        go_roundg (g1 - 1)
        case measure => omega
        case rel =>
         refine ⟨t + 1, _, by omega, by go_num, Lh rfl, ?_, ?_⟩
         ·show (picB ⟨S, bs.map (·.q)⟩ t ++ thrL S (BS.b ⟨S, bs.map (·.q)⟩ t) t).length <= _
          rw [List.length_append, thrL_len, b_mapP hy, <- HL.o]
          dsimp only
          omega
         ·have e9 : picB ⟨S, bs.map (·.q)⟩ (t + 1) = M ++ q.flatMap fun p => [(p.1 : Int), p.2] := by
           show picB ⟨S, bs.map (·.q)⟩ t ++ thrL S (BS.b ⟨S, bs.map (·.q)⟩ t) t = _
           rw [b_mapP hy, <- HL.o, HM.o, HR.o]
           unfold thrL
           simp
          rw [e9]
          exact HK
   ·obtain rfl : t = n := by omega
    have hT := HI.o.i.p
    have HZ9 := Lh HI.o.rs
    have hLl' : L.length <= 110 := by omega
    have hlen : (padI L).length = 110 := padI_len hLl'
    go_upto_region 21 with fail
    refine wp_region_lit ?_
    refine wpList_load_row rfl _ _ rfl (w.heap.size + 2) rfl 157 _ (0, 0) _ hT Tryz.underlying157 rfl (by rw [size_pt, List.size_toArray, hlen]) ?_
    refine wpList_store_row rfl _ _ _ rfl (w.heap.size + 1) (padI L).toArray rfl rfl _ _ HZ9.o (by rw [size_pt, List.size_toArray, hlen]) (by rw [List.size_toArray, List.size_toArray, hlen]; rfl) (padI_one L) ?_
    have HRr := Lh (setRow_heap wr (w.heap.size + 1) _ (padI L).toArray _ _ HZ9.o)
    have HB9 := Lh (rowB (g := w.heap.size + 1) (cs := (padI L).toArray) HI.o.bel (by omega))
    go_wp2_with fail
    refine bodyPost_ret_by (results_cell_row rfl _ _ (w.heap.size + 1) 157 _ (0, 0) _ rfl HRr.o Tryz.underlying157 rfl (by rw [size_pt, List.size_toArray, hlen])) rfl ?_
    rw [<- HL.o]
    exact ⟨rfl, HB9.o⟩
end Go.Proofs.YtgjdgapfnfhklaaGreat
