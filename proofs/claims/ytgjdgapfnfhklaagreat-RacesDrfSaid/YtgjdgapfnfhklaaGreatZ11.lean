/-
tso.Next, under sequential consistency with empty buffers. r
-/
import Derived.Test.YtgjdgapfnfhklaaGreatQtn
import Derived.Test.YtgjdgapfnfhklaaGreatZ5
import Derived.Test.YtgjdgapfnfhklaaGreatZ0
import Derived.Test.YtgjdgapfnfhklaaGreatZ8
import Derived.Test.YtgjdgapfnfhklaaGreatRst
set_option linter.unusedSimpArgs false
set_option linter.unusedVariables false
set_option maxRecDepth 100000
set_option maxHeartbeats 16000000
namespace Go.Proofs.YtgjdgapfnfhklaaGreat
open Go.RowKit
theorem results_c1t2 {P : Program} {fn : Func} {p u v : Tmp} {ty : TypeId} (h : fn.results = #[.cell p ty, .tmp u, .tmp v]) (tmps : Array Value) (w : World) (g : Nat) (t : TypeId) (cs : Array Value) (fr : Nat × Nat) (d : TypeDesc)
  (hp : tmps.getD p undef = .pointer (some ⟨g, 0, none⟩)) (hg : w.heap[g]? = some (.cells cs t fr))
  (hu : P.underlying ty = some d) (hd : (match d with | .struct _ | .array _ _ => true | _ => false) = true) (hi : (P.info? ty).map (·.size) = some cs.size) :
  (results fn tmps).run P w = .ok (.tuple #[.agg cs, tmps.getD u undef, tmps.getD v undef]) w := by
 simp only [results, h]
 simp only [Array.getD_eq_getD_getElem?] at hp
 simp [Sem.run_bind, Result.andThen, hp, asAddr, run_loadVar_row w g t ty cs fr d hg hu hd hi]
theorem results_c2t1 {P : Program} {fn : Func} {p q v : Tmp} {ty ty2 : TypeId} (h : fn.results = #[.cell p ty, .cell q ty2, .tmp v]) (tmps : Array Value) (w : World) (g g2 : Nat) (t t2 : TypeId) (cs cs2 : Array Value) (fr fr2 : Nat × Nat) (d d2 : TypeDesc)
  (hp : tmps.getD p undef = .pointer (some ⟨g, 0, none⟩)) (hg : w.heap[g]? = some (.cells cs t fr))
  (hu : P.underlying ty = some d) (hd : (match d with | .struct _ | .array _ _ => true | _ => false) = true) (hi : (P.info? ty).map (·.size) = some cs.size)
  (hp2 : tmps.getD q undef = .pointer (some ⟨g2, 0, none⟩)) (hg2 : w.heap[g2]? = some (.cells cs2 t2 fr2))
  (hu2 : P.underlying ty2 = some d2) (hd2 : (match d2 with | .struct _ | .array _ _ => true | _ => false) = true) (hi2 : (P.info? ty2).map (·.size) = some cs2.size) :
  (results fn tmps).run P w = .ok (.tuple #[.agg cs, .agg cs2, tmps.getD v undef]) w := by
 simp only [results, h]
 simp only [Array.getD_eq_getD_getElem?] at hp hp2
 simp [Sem.run_bind, Result.andThen, hp, hp2, asAddr, run_loadVar_row w g t ty cs fr d hg hu hd hi, run_loadVar_row w g2 t2 ty2 cs2 fr2 d2 hg2 hu2 hd2 hi2]
def NxtR (l : Lit) (S : LS) (u : Tn) (w : World) (e : Ending) (w' : World) : Prop := ∃ h', e = .returned (.tuple #[stV h' l.tn l.wn, .bool (pickS l S u).isSome, .int .i64 0]) /\ NewS w.heap.size h' /\ StAt w' h' l.tn l.wn (turnS l S u) /\ Below w.heap.size w w'
theorem rep_q (n : Nat) : (List.replicate n bf0).map (·.q) = List.replicate n [] := List.map_replicate
theorem rep_bf {n : Nat} : ∀ y ∈ List.replicate n bf0, y = bf0 := fun _ hy => (List.mem_replicate.1 hy).2
theorem copied_any (h : SH) (n nw : Nat) (S : LS) (w : World) (hs : StAt w h n nw S) (hn1 : 1 <= n) (hn4 : n <= 4) (hw1 : 1 <= nw) (hw6 : nw <= 6) :
  Calls Tryz.prog 61 #[stV h n nw] w (CpdR n nw S w) :=
 (copiedQ_any h n nw S (List.replicate n bf0) w hs.q (fun x hx => by rw [rep_bf x hx]; exact Nat.zero_le _) hn1 hn4 hw1 hw6).mono fun _ _ ⟨h', _, he, hn, hq, _, hb, hN⟩ => ⟨h', he, hn.1, hq.at (hN (fun x hx => by rw [rep_bf x hx]; rfl)), hb⟩
theorem turn_any (l : Lit) (w : World) (gs : Nat) (h : SH) (S : LS) (u : Tn) (hl : LitAt w w.heap.size l) (hs : StAt w h l.tn l.wn S) (hb : Blk w gs 77 (stL h l.tn l.wn)) (hg : GoodS l S) (hok : okLit l = true) :
  Calls Tryz.prog 62 #[litV l, .int .i64 1, .pointer (some ⟨gs, 0, none⟩), tnV u] w (fun e w' => e = .returned (.bool (pickS l S u).isSome) /\ StAt w' h l.tn l.wn (turnS l S u) /\ Fr (SQ h (List.replicate l.tn bf0)) w w') := by
 have hG : GoodQ l S (List.replicate l.tn bf0) := ⟨hg, fun y hy => by rw [rep_bf y hy]; exact ⟨Nat.zero_le _, fun p hp => by cases hp⟩⟩
 have key : Calls Tryz.prog 62 #[litV l, .int .i64 1, .pointer (some ⟨gs, 0, none⟩), tnV u] w (TurR l 1 h S (List.replicate l.tn bf0) u w) := by
  by_cases hu : 0 <= u.t /\ u.t < l.tn /\ u.out = false
  ·cases hp : (codeOf l u.t.toNat)[S.p u.t.toNat]? with
   | none => exact turnQ_no l 1 w gs h S _ u hl hs.q hb hG hok (fun _ => hp)
   | some x => exact turnQ_yes l 1 w gs h S _ u x hl hs.q hb hG hok hu hp
  ·exact turnQ_no l 1 w gs h S _ u hl hs.q hb hG hok (fun h9 => absurd h9 hu)
 refine key.mono ?_
 rintro e w' ⟨rfl, S', bs', hq, _, hf, he, hbs⟩
 have hb' := hbs rfl (fun y hy => by rw [rep_bf y hy]; rfl)
 subst hb'
 rw [rep_q, turn_sc] at he ⊢
 have hS : S' = turnS l S u := by
  cases hp : pickS l S u with
  | none =>
   rw [hp] at he
   injection he with he
   rw [he]
   unfold turnS
   rw [hp]
  | some x =>
   rw [hp] at he
   injection he
 rw [<- hS]
 exact ⟨by cases pickS l S u <;> rfl, hq.at rep_bf, hf⟩
theorem next_any (l : Lit) (w : World) (h : SH) (S : LS) (u : Tn) (hl : LitAt w w.heap.size l) (hs : StAt w h l.tn l.wn S) (hg : GoodS l S) (hok : okLit l = true) :
  Calls Tryz.prog 56 #[litV l, .int .i64 1, stV h l.tn l.wn, tnV u] w (NxtR l S u w) := by
 obtain ⟨n1, n2, n3, n4⟩ := okLit_num hok
 obtain ⟨w0, hw0⟩ : ∃ w0 : World, w0 = ((((w.alloc (.cells #[.slice l.wA l.wn l.wk, .slice l.tA l.tn l.tk] 25)).alloc (.cells #[.slice (some ⟨h.gw, 0, none⟩) l.wn h.kw, .slice (some ⟨h.gr, 0, none⟩) l.tn h.kr, .slice (some ⟨h.gp, 0, none⟩) l.tn h.kp, .slice (some ⟨h.gb, 0, none⟩) l.tn h.kb] 77)).alloc (.cells #[.int .i64 u.t, .bool u.out, .int .i64 u.a] 91)).alloc (.cells #[.slice none 0 0, .slice none 0 0, .slice none 0 0, .slice none 0 0] 77)) := ⟨_, rfl⟩
 have HL0 : Hid (Blk w0 w.heap.size 25 (litL l)) := by rw [hw0]; exact (((Blk.new w 25 (litL l)).alloc _).alloc _).alloc _
 have HX0 : Hid (Blk w0 (w.heap.size + 1) 77 (stL h l.tn l.wn)) := by
  rw [hw0]
  have h9 := ((Blk.new (w.alloc (.cells #[.slice l.wA l.wn l.wk, .slice l.tA l.tn l.tk] 25)) 77 (stL h l.tn l.wn)).alloc (.cells #[.int .i64 u.t, .bool u.out, .int .i64 u.a] 91)).alloc (.cells #[.slice none 0 0, .slice none 0 0, .slice none 0 0, .slice none 0 0] 77)
  rw [World.size_alloc] at h9
  exact h9
 have HU0 : Hid (Blk w0 (w.heap.size + 1 + 1) 91 (tnL u)) := by
  rw [hw0]
  have h9 := (Blk.new ((w.alloc (.cells #[.slice l.wA l.wn l.wk, .slice l.tA l.tn l.tk] 25)).alloc (.cells #[.slice (some ⟨h.gw, 0, none⟩) l.wn h.kw, .slice (some ⟨h.gr, 0, none⟩) l.tn h.kr, .slice (some ⟨h.gp, 0, none⟩) l.tn h.kp, .slice (some ⟨h.gb, 0, none⟩) l.tn h.kb] 77)) 91 (tnL u)).alloc (.cells #[.slice none 0 0, .slice none 0 0, .slice none 0 0, .slice none 0 0] 77)
  rw [World.size_alloc, World.size_alloc] at h9
  exact h9
 have HZ0 : Hid (Blk w0 (w.heap.size + 1 + 1 + 1) 77 [.slice none 0 0, .slice none 0 0, .slice none 0 0, .slice none 0 0]) := by
  rw [hw0]
  have h9 := Blk.new (((w.alloc (.cells #[.slice l.wA l.wn l.wk, .slice l.tA l.tn l.tk] 25)).alloc (.cells #[.slice (some ⟨h.gw, 0, none⟩) l.wn h.kw, .slice (some ⟨h.gr, 0, none⟩) l.tn h.kr, .slice (some ⟨h.gp, 0, none⟩) l.tn h.kp, .slice (some ⟨h.gb, 0, none⟩) l.tn h.kb] 77)).alloc (.cells #[.int .i64 u.t, .bool u.out, .int .i64 u.a] 91)) 77 [.slice none 0 0, .slice none 0 0, .slice none 0 0, .slice none 0 0]
  rw [World.size_alloc, World.size_alloc, World.size_alloc] at h9
  exact h9
 have HW0 : Hid (Below w.heap.size w w0) := by rw [hw0]; exact ((((Below.refl _ _).alloc (Nat.le_refl _) _).alloc (by simp) _).alloc (by simp; omega) _).alloc (by simp; omega) _
 have HL := Lh hl
 have HS := Lh hs
 have HG := Lh hg
 have HOk := Lh hok
 have HWe := Lh hw0
 have hz0 : w.heap.size + 1 + 1 + 1 < w0.heap.size := HZ0.o.lt
 have d1 : ((0 : Int) != 0) = false := rfl
 clear hw0 hl hs hg hok
 go_enter Tryz.func56, Tryz.ntmps56
 go_upto_region 1 with fail
 rw [<- HWe.o]
 clear HWe
 have q0 := HL0.o.cell (i := 0) rfl
 have q1 := HL0.o.cell (i := 1) rfl
 go_wp2_with fail
 refine (look_any l w0 ((HL.o.keep HW0.o).up HW0.o.size)).mono ?_
 rintro e w1 ⟨rfl, hb1⟩
 rw [litErr_ok HOk.o]
 have HL1 := Lh (HL0.o.below hb1 HL0.o.lt)
 have HX1 := Lh (HX0.o.below hb1 HX0.o.lt)
 have HU1 := Lh (HU0.o.below hb1 HU0.o.lt)
 have HZ1 := Lh (HZ0.o.below hb1 HZ0.o.lt)
 have HW1 := Lh (HW0.o.trans (hb1.mono HW0.o.size))
 have hz1 := hb1.size
 clear hb1 HL0 HX0 HU0 HZ0 HW0 q0 q1
 have q0 := HL1.o.cell (i := 0) rfl
 have q1 := HL1.o.cell (i := 1) rfl
 have s0 := HX1.o.cell (i := 0) rfl
 have s1 := HX1.o.cell (i := 1) rfl
 have s2 := HX1.o.cell (i := 2) rfl
 have s3 := HX1.o.cell (i := 3) rfl
 go_wp2_with fail
 refine (belongs_any l w1 h S ((HL.o.keep HW1.o).up HW1.o.size) (HS.o.on HW1.o) HG.o HOk.o).mono ?_
 rintro e w2 ⟨rfl, hb2⟩
 have HL2 := Lh (HL1.o.below hb2 HL1.o.lt)
 have HX2 := Lh (HX1.o.below hb2 HX1.o.lt)
 have HU2 := Lh (HU1.o.below hb2 HU1.o.lt)
 have HZ2 := Lh (HZ1.o.below hb2 HZ1.o.lt)
 have HW2 := Lh (HW1.o.trans (hb2.mono HW1.o.size))
 have hz2 := hb2.size
 clear hb2 HL1 HX1 HU1 HZ1 q0 q1 s0 s1 s2 s3
 have s0 := HX2.o.cell (i := 0) rfl
 have s1 := HX2.o.cell (i := 1) rfl
 have s2 := HX2.o.cell (i := 2) rfl
 have s3 := HX2.o.cell (i := 3) rfl
 go_wp2_with fail
 refine (copied_any h l.tn l.wn S w2 (HS.o.on HW2.o) n1 n2 n3 n4).mono ?_
 rintro e w3 ⟨h3, rfl, hnew, hst3, hb3⟩
 have HL3 := Lh (HL2.o.below hb3 HL2.o.lt)
 have HX3 := Lh (HX2.o.below hb3 HX2.o.lt)
 have HU3 := Lh (HU2.o.below hb3 HU2.o.lt)
 have HZ3 := Lh (HZ2.o.below hb3 HZ2.o.lt)
 have HW3 := Lh (HW2.o.trans (hb3.mono HW2.o.size))
 have hz3 := hb3.size
 clear HL2 HX2 HU2 HZ2 s0 s1 s2 s3
 have HNew := Lh hnew
 have HSt3 := Lh hst3
 clear hnew hst3 hb3
 rename_i hk
 refine hk _ _ ?_
 clear hk
 go_upto_region 7 with fail
 obtain ⟨gc, hgc⟩ : ∃ gc, gc = w3.heap.size := ⟨_, rfl⟩
 obtain ⟨w4, hw4, HC4, hb4⟩ : ∃ Z9, Z9 = w3.alloc (.cells #[.slice (some ⟨h3.gw, 0, none⟩) l.wn h3.kw, .slice (some ⟨h3.gr, 0, none⟩) l.tn h3.kr, .slice (some ⟨h3.gp, 0, none⟩) l.tn h3.kp, .slice (some ⟨h3.gb, 0, none⟩) l.tn h3.kb] 77) /\ Hid (Blk Z9 gc 77 (stL h3 l.tn l.wn)) /\ Below w3.heap.size w3 Z9 := ⟨_, rfl, by rw [hgc]; exact Blk.new _ _ _, (Below.refl _ _).alloc (Nat.le_refl _) _⟩
 rw [<- hw4, <- hgc]
 have HL4 := Lh (HL3.o.below hb4 HL3.o.lt)
 have HX4 := Lh (HX3.o.below hb4 HX3.o.lt)
 have HU4 := Lh (HU3.o.below hb4 HU3.o.lt)
 have HZ4 := Lh (HZ3.o.below hb4 HZ3.o.lt)
 have HW4 := Lh (HW3.o.trans (hb4.mono HW3.o.size))
 have hz4 := hb4.size
 have HSt4 := Lh (HSt3.o.on hb4)
 have hgc4 : w.heap.size + 1 + 1 + 1 < gc := by rw [hgc]; exact HZ3.o.lt
 clear hb4 hw4 hgc HSt3
 have q0 := HL4.o.cell (i := 0) rfl
 have q1 := HL4.o.cell (i := 1) rfl
 have u0 := HU4.o.cell (i := 0) rfl
 have u1 := HU4.o.cell (i := 1) rfl
 have u2 := HU4.o.cell (i := 2) rfl
 go_wp2_with fail
 refine (turn_any l w4 gc h3 S u ((HL.o.keep HW4.o).up HW4.o.size) HSt4.o HC4.o HG.o HOk.o).mono ?_
 rintro e w5 ⟨rfl, hst5, hfr⟩
 have hsf : ∀ q, SQ h3 (List.replicate l.tn bf0) q -> w2.heap.size <= q := by
  have := HNew.o
  rintro q (e | e | e | e | ⟨x, hx, e⟩)
  ·rw [e]; exact this.1
  ·rw [e]; exact this.2.1
  ·rw [e]; exact this.2.2.1
  ·rw [e]; exact this.2.2.2
  ·rw [rep_bf x hx] at e; cases e
 have hb5 : Below w2.heap.size w4 w5 := hfr.to_below (by have := HW4.o.size; omega) hsf
 have HC5 : Hid (Blk w5 gc 77 (stL h3 l.tn l.wn)) := HC4.o.kept (hfr.block gc HC4.o.lt (by
  rintro (e | e | e | e | ⟨x, hx, e⟩)
  ·exact HSt4.o.w.ne HC4.o (by decide) e
  ·exact HSt4.o.r.ne HC4.o (by decide) e
  ·exact HSt4.o.p.ne HC4.o (by decide) e
  ·exact HSt4.o.b.ne HC4.o (by decide) e
  ·rw [rep_bf x hx] at e; cases e))
 have HZ5 := Lh (HZ4.o.below hb5 (by omega))
 have HW5 := Lh (HW4.o.trans (hb5.mono (by omega)))
 have HSt5 := Lh hst5
 clear hfr hst5 hb5 q0 q1 u0 u1 u2
 go_upto_region 8 with fail
 refine wp_region_lit ?_
 refine wpList_load_row rfl _ _ rfl gc rfl 77 _ (0, 0) _ HC5.o Tryz.underlying77 rfl size_lst ?_
 go_wp2_with (refine wpList_store_row rfl _ _ _ rfl (w.heap.size + 1 + 1 + 1) #[.slice (some ⟨h3.gw, 0, none⟩) l.wn h3.kw, .slice (some ⟨h3.gr, 0, none⟩) l.tn h3.kr, .slice (some ⟨h3.gp, 0, none⟩) l.tn h3.kp, .slice (some ⟨h3.gb, 0, none⟩) l.tn h3.kb] rfl rfl 77 _ HZ5.o size_lst rfl (lst_one _ _ _ _ _ _ _ _ _ _ _ _) ?_)
 (try simp only [Act.put])
 go_wp2_with fail
 have HR := Lh (setRow_heap w5 (w.heap.size + 1 + 1 + 1) _ #[.slice (some ⟨h3.gw, 0, none⟩) l.wn h3.kw, .slice (some ⟨h3.gr, 0, none⟩) l.tn h3.kr, .slice (some ⟨h3.gp, 0, none⟩) l.tn h3.kp, .slice (some ⟨h3.gb, 0, none⟩) l.tn h3.kb] _ _ HZ5.o)
 refine bodyPost_ret_by (results_c1t2 rfl _ _ (w.heap.size + 1 + 1 + 1) 77 _ (0, 0) _ rfl HR.o Tryz.underlying77 rfl size_lst) rfl ?_
 have hn := HNew.o
 have hs2 := HW2.o.size
 refine ⟨h3, rfl, ⟨Nat.le_trans hs2 hn.1, Nat.le_trans hs2 hn.2.1, Nat.le_trans hs2 hn.2.2.1, Nat.le_trans hs2 hn.2.2.2⟩, ?_, rowB HW5.o (by omega)⟩
 obtain ⟨m1, m2, m3, m4⟩ := hn
 exact ⟨HSt5.o.w.kept (rowK (by omega)), HSt5.o.r.kept (rowK (by omega)), HSt5.o.p.kept (rowK (by omega)), HSt5.o.b.kept (rowK (by omega)), HSt5.o.ne⟩
end Go.Proofs.YtgjdgapfnfhklaaGreat
namespace Go.Proofs.YtgjdgapfnfhklaaGreat
open Go.RowKit
theorem wpList_app_nil {P : Program} {w : World} {ops : Array Oper} {rest : List Oper} {o : Oper} {a : Act} {Q : Exit -> Act -> World -> Prop} (hgd : o.guard = none) (s x : Operand) (t e : TypeId)
  (ho : o.op = .call { callee := .builtin .append, args := #[s, x], argTypes := #[t, t] }) (i : TypeInfo) (ht : P.underlying t = some (.slice e)) (hi : P.info? e = some i)
  (hv : a.eval s = .slice none 0 0) (hx : a.eval x = .slice none 0 0) (h : wpList P ops Q rest (a.put o.dst (.slice none 0 0)) w) : wpList P ops Q (o :: rest) a w :=
 wpList_plain hgd fun _ hK => by
  have hrun : (Builtin.append_ #[t, t] o.type #[.slice none 0 0, .slice none 0 0]).run P w = .ok (.slice none 0 0) w := by
   simp [Builtin.append_, run_underlying ht, sizeOf, typeInfo, hi, Builtin.lenOf, Builtin.firstCells]
  unfold Oper.wp execOp
  simp only [ho, resolve, invoke, builtin, Sem.run_bind, Sem.run_pure, Result.andThen_ok, List.map_toArray, List.map_cons, List.map_nil, hv, hx, hrun]
  exact hK _ _ h
theorem info_pn : (Tryz.prog.info? 180).map (·.size) = some 2 := by kernel_rfl
theorem info_r4 : (Tryz.prog.info? 96).map (fun i => (i.zero, i.size, i.bytes)) = some (some (.agg #[.int .i64 0, .int .i64 0, .int .i64 0, .int .i64 0]), 4, 32) := by kernel_rfl
theorem natsI_oneC {l : List Nat} : ∀ u ∈ natsI l, u.oneCell' = true := by
 intro u hu
 obtain ⟨x, _, rfl⟩ := List.mem_map.1 hu
 rfl
theorem gbn {B : Nat} {a w w' : World} (h : Below B a w) (hg : w.grownBy w' none) (hB : B <= w.heap.size) : Below B a w' := h.grown hg hB (fun q hq => by cases hq)
theorem copy19_any (h : SH) (n nw : Nat) (S : LS) (w : World) (hs : StAt w h n nw S) (hn1 : 1 <= n) (hn4 : n <= 4) (hw1 : 1 <= nw) (hw6 : nw <= 6) :
  Calls Tryz.prog 49 #[stV h n nw] w (CpdR n nw S w) := by
 obtain ⟨wA, hwA⟩ : ∃ wA : World, wA = (w.alloc (.cells #[.slice (some ⟨h.gw, 0, none⟩) nw h.kw, .slice (some ⟨h.gr, 0, none⟩) n h.kr, .slice (some ⟨h.gp, 0, none⟩) n h.kp, .slice (some ⟨h.gb, 0, none⟩) n h.kb] 77)).alloc (.cells #[.slice none 0 0, .slice none 0 0, .slice none 0 0, .slice none 0 0] 77) := ⟨_, rfl⟩
 obtain ⟨gt, hgt⟩ : ∃ gt, gt = wA.heap.size := ⟨_, rfl⟩
 have hgw : gt = w.heap.size + 1 + 1 := by rw [hgt, hwA, World.size_alloc, World.size_alloc]
 obtain ⟨w0, hw0⟩ : ∃ w0 : World, w0 = wA.alloc (.cells #[.slice none 0 0, .slice none 0 0, .slice none 0 0, .slice none 0 0] 77) := ⟨_, rfl⟩
 have HB : Hid (Blk wA w.heap.size 77 (stL h n nw)) := by rw [hwA]; exact Lh ((Blk.new w 77 (stL h n nw)).alloc _)
 have HZ : Hid (Blk wA (w.heap.size + 1) 77 [.slice none 0 0, .slice none 0 0, .slice none 0 0, .slice none 0 0]) := by
  rw [hwA]
  have h9 := Blk.new (w.alloc (.cells #[.slice (some ⟨h.gw, 0, none⟩) nw h.kw, .slice (some ⟨h.gr, 0, none⟩) n h.kr, .slice (some ⟨h.gp, 0, none⟩) n h.kp, .slice (some ⟨h.gb, 0, none⟩) n h.kb] 77)) 77 [.slice none 0 0, .slice none 0 0, .slice none 0 0, .slice none 0 0]
  rw [World.size_alloc] at h9
  exact Lh h9
 have HWA : Hid (Below w.heap.size w wA) := by rw [hwA]; exact Lh (((Below.refl _ _).alloc (Nat.le_refl _) _).alloc (by simp) _)
 have HS := Lh (hs.on HWA.o)
 have HX0 : Hid (Below wA.heap.size wA w0) := by rw [hw0]; exact Lh ((Below.refl _ _).alloc (Nat.le_refl _) _)
 have HT0 : Hid (Blk w0 gt 77 [.slice none 0 0, .slice none 0 0, .slice none 0 0, .slice none 0 0]) := by rw [hw0, hgt]; exact Lh (Blk.new wA 77 [.slice none 0 0, .slice none 0 0, .slice none 0 0, .slice none 0 0])
 have HWe : Hid (w0 = ((w.alloc (.cells #[.slice (some ⟨h.gw, 0, none⟩) nw h.kw, .slice (some ⟨h.gr, 0, none⟩) n h.kr, .slice (some ⟨h.gp, 0, none⟩) n h.kp, .slice (some ⟨h.gb, 0, none⟩) n h.kb] 77)).alloc (.cells #[.slice none 0 0, .slice none 0 0, .slice none 0 0, .slice none 0 0] 77)).alloc (.cells #[.slice none 0 0, .slice none 0 0, .slice none 0 0, .slice none 0 0] 77)) := Lh (by rw [hw0, hwA])
 have HGe := Lh hgw
 have HGt := Lh hgt
 have hgB : w.heap.size + 1 < gt := by omega
 obtain ⟨ii, hii, hiiz, hiis, hiib⟩ := info_parts info_iF
 obtain ⟨ir, hir, hirz, hirs, hirb⟩ := info_parts info_r4
 obtain ⟨ip, hip, hipz, hips, hipb⟩ := info_parts info_pend
 obtain ⟨iq, hiq⟩ : ∃ iq, Tryz.prog.info? 180 = some iq := by
  cases hq : Tryz.prog.info? 180 with
  | none => have := info_pn; rw [hq] at this; cases this
  | some iq => exact ⟨iq, rfl⟩
 have Hiq := Lh hiq
 clear hs hw0 hwA hgt hiq hgw
 go_enter Tryz.func49, Tryz.ntmps49
 go_upto_region 2 with fail
 rw [<- HWe.o, <- HGe.o]
 clear HWe
 have s0 := (HB.o.below HX0.o HB.o.lt).cell (i := 0) rfl
 have t0 := HT0.o.cell (i := 0) rfl
 have HSl : Hid (Sl w0 w0.heap.size 1 (some ⟨h.gw, 0, none⟩) nw (ints S.ws)) := Lh (HS.o.on HX0.o).w.sl
 go_upto_region 3 with (at_builtin; go_must (refine wpList_app _ rfl _ _ 22 rfl wA.heap.size 3 ii (.int .i64 0) 1 8 Tryz.underlying22 hii hiiz hiis hiib rfl (by decide) (.slice none 0 0) 0 [] rfl (World.ownsRow_nil _ _ _ _) _ (some ⟨h.gw, 0, none⟩) nw h.kw (ints S.ws) rfl HSl.o ints_oneI nw (by omega) (ints S.ws) (List.nil_append _) none rfl (by simp only [maxLen]; omega) (by omega) HX0.o.size ?_; intro A9 kw v9 hown hg hat hk7 hk8; obtain ⟨gw, hgq, gwB, hRq⟩ := Rw.of_own hown (by omega); subst hgq; have hB9 := HT0.o.grown hg (by simp); have d1 : v9.cell? ⟨gt, 0, none⟩ = some (.slice none 0 0) := hB9.cell rfl; have df := hB9.frozen 0))
 have hnewgw : w0.heap.size <= gw := by
  rcases hat with h9 | h9
  ·cases h9
  ·injection h9 with h9
   have h8 : gw = w0.heap.size := h9
   omega
 skip
 obtain ⟨W1, hZ, HX1, HT1, HRgw1⟩ : ∃ Z9, Z9 = v9.setCell ⟨gt, 0, none⟩ (.slice (some ⟨gw, 0, none⟩) nw kw) /\ Hid (Below wA.heap.size wA Z9) /\ Hid (Blk Z9 gt 77 [.slice (some ⟨gw, 0, none⟩) nw kw, .slice none 0 0, .slice none 0 0, .slice none 0 0]) /\ Hid (Rw Z9 gw 3 1 nw kw (ints S.ws)) :=
  ⟨_, rfl, Lh ((gbn HX0.o hg HX0.o.size).setCell (Nat.le_of_eq HGt.o.symm) _), Lh (hB9.set_ 0 _), Lh (hRq.far (hRq.nb hB9 (by decide)) _)⟩
 rw [<- hZ]
 clear hZ d1 df hown hg hat hRq hB9 s0 t0 HSl HX0 HT0
 have s1 := (HB.o.below HX1.o HB.o.lt).cell (i := 1) rfl
 have t1 := HT1.o.cell (i := 1) rfl
 have HSl : Hid (Sl W1 W1.heap.size 4 (some ⟨h.gr, 0, none⟩) n (ints S.rs)) := Lh (HS.o.on HX1.o).r.sl
 go_upto_region 4 with (at_builtin; go_must (refine wpList_app _ rfl _ _ 40 rfl wA.heap.size 96 ir (.agg #[.int .i64 0, .int .i64 0, .int .i64 0, .int .i64 0]) 4 32 Tryz.underlying40 hir hirz hirs hirb rfl (by decide) (.slice none 0 0) 0 [] rfl (World.ownsRow_nil _ _ _ _) _ (some ⟨h.gr, 0, none⟩) n h.kr (ints S.rs) rfl HSl.o ints_oneI n (by omega) (ints S.rs) (List.nil_append _) none rfl (by simp only [maxLen]; omega) (by omega) HX1.o.size ?_; intro A9 kr v9 hown hg hat hk7 hk8; obtain ⟨gr, hgq, grB, hRq⟩ := Rw.of_own hown (by omega); subst hgq; have hB9 := HT1.o.grown hg (by simp); have d1 : v9.cell? ⟨gt, 1, none⟩ = some (.slice none 0 0) := hB9.cell rfl; have df := hB9.frozen 1))
 have hnewgr : W1.heap.size <= gr := by
  rcases hat with h9 | h9
  ·cases h9
  ·injection h9 with h9
   have h8 : gr = W1.heap.size := h9
   omega
 skip
 obtain ⟨W2, hZ, HX2, HT2, HRgr2, HRgw2⟩ : ∃ Z9, Z9 = v9.setCell ⟨gt, 1, none⟩ (.slice (some ⟨gr, 0, none⟩) n kr) /\ Hid (Below wA.heap.size wA Z9) /\ Hid (Blk Z9 gt 77 [.slice (some ⟨gw, 0, none⟩) nw kw, .slice (some ⟨gr, 0, none⟩) n kr, .slice none 0 0, .slice none 0 0]) /\ Hid (Rw Z9 gr 96 4 n kr (ints S.rs)) /\ Hid (Rw Z9 gw 3 1 nw kw (ints S.ws)) :=
  ⟨_, rfl, Lh ((gbn HX1.o hg HX1.o.size).setCell (Nat.le_of_eq HGt.o.symm) _), Lh (hB9.set_ 1 _), Lh (hRq.far (hRq.nb hB9 (by decide)) _), Lh ((HRgw1.o.gb hg (by simp)).far (HRgw1.o.nb HT1.o (by decide)) _)⟩
 rw [<- hZ]
 clear hZ d1 df hown hg hat hRq hB9 s1 t1 HSl HX1 HT1 HRgw1
 have s2 := (HB.o.below HX2.o HB.o.lt).cell (i := 2) rfl
 have t2 := HT2.o.cell (i := 2) rfl
 have HSl : Hid (Sl W2 W2.heap.size 1 (some ⟨h.gp, 0, none⟩) n (natsI S.ps)) := Lh (HS.o.on HX2.o).p.sl
 go_upto_region 5 with (at_builtin; go_must (refine wpList_app _ rfl _ _ 22 rfl wA.heap.size 3 ii (.int .i64 0) 1 8 Tryz.underlying22 hii hiiz hiis hiib rfl (by decide) (.slice none 0 0) 0 [] rfl (World.ownsRow_nil _ _ _ _) _ (some ⟨h.gp, 0, none⟩) n h.kp (natsI S.ps) rfl HSl.o natsI_oneC n (by omega) (natsI S.ps) (List.nil_append _) none rfl (by simp only [maxLen]; omega) (by omega) HX2.o.size ?_; intro A9 kp v9 hown hg hat hk7 hk8; obtain ⟨gp, hgq, gpB, hRq⟩ := Rw.of_own hown (by omega); subst hgq; have hB9 := HT2.o.grown hg (by simp); have d1 : v9.cell? ⟨gt, 2, none⟩ = some (.slice none 0 0) := hB9.cell rfl; have df := hB9.frozen 2))
 have hnewgp : W2.heap.size <= gp := by
  rcases hat with h9 | h9
  ·cases h9
  ·injection h9 with h9
   have h8 : gp = W2.heap.size := h9
   omega
 have hnp : gw ≠ gp := fun e => by have := HRgw2.o.lt; omega
 obtain ⟨W3, hZ, HX3, HT3, HRgp3, HRgw3, HRgr3⟩ : ∃ Z9, Z9 = v9.setCell ⟨gt, 2, none⟩ (.slice (some ⟨gp, 0, none⟩) n kp) /\ Hid (Below wA.heap.size wA Z9) /\ Hid (Blk Z9 gt 77 [.slice (some ⟨gw, 0, none⟩) nw kw, .slice (some ⟨gr, 0, none⟩) n kr, .slice (some ⟨gp, 0, none⟩) n kp, .slice none 0 0]) /\ Hid (Rw Z9 gp 3 1 n kp (natsI S.ps)) /\ Hid (Rw Z9 gw 3 1 nw kw (ints S.ws)) /\ Hid (Rw Z9 gr 96 4 n kr (ints S.rs)) :=
  ⟨_, rfl, Lh ((gbn HX2.o hg HX2.o.size).setCell (Nat.le_of_eq HGt.o.symm) _), Lh (hB9.set_ 2 _), Lh (hRq.far (hRq.nb hB9 (by decide)) _), Lh ((HRgw2.o.gb hg (by simp)).far (HRgw2.o.nb HT2.o (by decide)) _), Lh ((HRgr2.o.gb hg (by simp)).far (HRgr2.o.nb HT2.o (by decide)) _)⟩
 rw [<- hZ]
 clear hZ d1 df hown hg hat hRq hB9 s2 t2 HSl HX2 HT2 HRgw2 HRgr2
 have HC : Hid (Cpy wA n nw S gt gw kw gr kr gp kp (.slice none 0 0) 0 W3) := Lh ⟨HX3.o, HT3.o, HRgw3.o, HRgr3.o, HRgp3.o, World.ownsRow_nil _ _ _ _, ⟨HRgw3.o.nt HRgr3.o (by decide), hnp, HRgr3.o.nt HRgp3.o (by decide)⟩, ⟨Nat.le_of_eq HGt.o.symm, by omega, by omega, by omega⟩⟩
 clear HX3 HT3 HRgw3 HRgr3 HRgp3
 go_wp2_with fail
 go_loopg [4] n (fun gk i wr => ∃ (j : Nat) (bv : Value), j + gk = n /\ i = .int .i64 j /\ Hid (Cpy wA n nw S gt gw kw gr kr gp kp bv j wr))
 case atStart => exact ⟨0, _, by omega, rfl, HC⟩
 case round =>
  obtain ⟨j, bv, hj, rfl, HI⟩ := hrel
  have b3 := (HB.o.below HI.o.bel HB.o.lt).cell (i := 3) rfl
  by_cases hlt : j < n
  ·have e1 : (j : Int) < n := by omega
   have e0 : (0 : Int) <= j := by omega
   have d1 : decide (j < n) = true := by simpa using hlt
   have c1 : wr.cell? ⟨h.gb, j, none⟩ = some (.slice none 0 0) := (HS.o.on HI.o.bel).buf hlt
   obtain ⟨A, kb, hbv, hk1, hk2⟩ := own_form HI.o.b
   subst hbv
   have b0 := HI.o.t.cell (i := 3) rfl
   have hbz := HI.o.bel.size
   have hBz := HI.o.t.lt
   go_wp2_with (at_builtin; go_must (first | (refine wpList_app_nil rfl _ _ 161 180 rfl iq Tryz.underlying161 Hiq.o rfl rfl ?_) | (refine wpList_app _ rfl _ _ 75 rfl wA.heap.size 161 ip (.slice none 0 0) 1 24 Tryz.underlying75 hip hipz hips hipb rfl (by decide) (.slice A j kb) j (List.replicate j (.slice none 0 0)) rfl (HI.o.b.alloc _) (wr.heap.size + 1) (some ⟨wr.heap.size, 0, none⟩) 1 1 [.slice none 0 0] rfl (((Blk.new wr 161 _).sl rfl).up (by simp)) one_nil (j + 1) rfl _ (rep_snoc j _) _ rfl (by simp only [maxLen]; omega) (by omega) (by rw [World.size_alloc]; omega) ?_; intro A10 k10 W10 hown10 hg10 hat10 hk10 hk11; have hB10 := (HI.o.t.alloc (.cells #[.slice none 0 0] 161)).grown hg10 (own_nb (HI.o.b.alloc (.cells #[.slice none 0 0] 161)) (HI.o.t.alloc (.cells #[.slice none 0 0] 161)) (by decide)); have d0 : W10.cell? ⟨gt, 3, none⟩ = some (.slice A j kb) := hB10.cell rfl; have df := hB10.frozen 3)))
   go_roundg (gk - 1)
   case measure => omega
   case rel => exact ⟨j + 1, _, by omega, by go_num, HI.o.next ((Below.refl _ wr).alloc (Nat.le_refl _) (.cells #[.slice none 0 0] 161)) hg10 hown10⟩
  ·obtain rfl : j = n := by omega
   obtain ⟨A, kb, hbv, hk1, hk2⟩ := own_form HI.o.b
   subst hbv
   obtain ⟨gb, hgb, hB, hR⟩ := Rw.of_own HI.o.b (by omega)
   subst hgb
   have hzd := HI.o.bel.size
   have HZ9 := Lh (HZ.o.below HI.o.bel HZ.o.lt)
   have hT := HI.o.t
   have HR9 := Lh hR
   have hzA := HWA.o.size
   clear hR
   go_upto_region 11 with fail
   refine wp_region_lit ?_
   refine wpList_load_row rfl _ _ rfl gt rfl 77 _ (0, 0) _ hT Tryz.underlying77 rfl size_lst ?_
   refine wpList_store_row rfl _ _ _ rfl (w.heap.size + 1) _ rfl rfl _ _ HZ9.o size_lst rfl (lst_one _ _ _ _ _ _ _ _ _ _ _ _) ?_
   have HR := Lh (setRow_heap wr (w.heap.size + 1) _ (stL ⟨gw, kw, gr, kr, gp, kp, gb, kb⟩ j nw).toArray _ _ HZ9.o)
   have HG := HI.o.ge
   have hgt9 := HGt.o
   have hge9 := HGe.o
   go_wp2_with fail
   refine bodyPost_ret_by (results_cell_row rfl _ _ (w.heap.size + 1) 77 _ (0, 0) _ rfl HR.o Tryz.underlying77 rfl size_lst) rfl ?_
   refine ⟨⟨gw, kw, gr, kr, gp, kp, gb, kb⟩, rfl, ⟨by dsimp only; omega, by dsimp only; omega, by dsimp only; omega, by dsimp only; omega⟩, ⟨HI.o.w.kept (rowK (by omega)), HI.o.r.kept (rowK (by omega)), HI.o.p.kept (rowK (by omega)), HR9.o.kept (rowK (by omega)), ?_⟩, rowB (HWA.o.trans (HI.o.bel.mono (by omega))) (by omega)⟩
   obtain ⟨n1, n2, n3⟩ := HI.o.ne
   have m1 := own_nr HI.o.b HI.o.w (by decide)
   have m2 := own_nr HI.o.b HI.o.r (by decide)
   have m3 := own_nr HI.o.b HI.o.p (by decide)
   exact ⟨n1, n2, fun e => m1 (by have e' : gw = gb := e; rw [e']; rfl), n3, fun e => m2 (by have e' : gr = gb := e; rw [e']; rfl), fun e => m3 (by have e' : gp = gb := e; rw [e']; rfl)⟩
end Go.Proofs.YtgjdgapfnfhklaaGreat
