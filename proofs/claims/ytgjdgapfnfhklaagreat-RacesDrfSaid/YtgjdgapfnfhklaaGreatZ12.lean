/-
races.ahead and races.Before. The order of accesses by their
-/
import Derived.Test.YtgjdgapfnfhklaaGreatClks
import Derived.BigQuiet
import Derived.Maps.GroupsBeside
set_option linter.unusedSimpArgs false
set_option linter.unusedVariables false
set_option maxRecDepth 100000
set_option maxHeartbeats 4000000
namespace Go.Proofs.YtgjdgapfnfhklaaGreat
open Go.RowKit Go.Maps
theorem outVals_len (c : Cfg) (tr : List Acc) (j : Nat) : (outVals c tr j).length = j * 16 := by
 induction j with
 | zero => rfl
 | succ j ih =>
  rw [outVals_next, List.length_append, ih, ints_len, clkL_len]
  omega
theorem outVals_get (c : Cfg) (tr : List Acc) (n i t : Nat) (hi : i < n) (ht : t < 16) : (outVals c tr n)[i * 16 + t]? = some (.int .i64 (outC c tr i t)) := by
 induction n with
 | zero => omega
 | succ n ih =>
  rw [outVals_next]
  by_cases h : i < n
  ·rw [List.getElem?_append_left (by rw [outVals_len]; omega)]
   exact ih h
  ·obtain rfl : i = n := by omega
   rw [List.getElem?_append_right (by rw [outVals_len]; omega), outVals_len, show i * 16 + t - i * 16 = t by omega]
   exact clkV_get ht
def aheadB (c : Cfg) (tr : List Acc) (i j : Nat) : Bool := !decide (i = j) && (match tr[i]? with | some x => decide (outC c tr i x.thread.toNat <= outC c tr j x.thread.toNat) | none => false)
theorem aheadB_same (c : Cfg) (tr : List Acc) (i : Nat) : aheadB c tr i i = false := by simp [aheadB]
theorem aheadB_at {c : Cfg} {tr : List Acc} {i j T : Nat} {x : Acc} (hx : tr[i]? = some x) (hT : x.thread = T) (hne : i ≠ j) : aheadB c tr i j = decide (outC c tr i T <= outC c tr j T) := by
 unfold aheadB
 rw [hx]
 show (!decide (i = j) && decide (outC c tr i x.thread.toNat <= outC c tr j x.thread.toNat)) = _
 rw [show x.thread.toNat = T by omega]
 simp [hne]
theorem pahead_any (c : Cfg) (h0 h2 h3 : Value) (A : Option Addr) (n k : Nat) (tr : List Acc) (w : World) (h : RunAt w w.heap.size A n k tr) (A2 : Option Addr) (k2 : Nat) (hA2 : Sl w w.heap.size 16 A2 n (outVals c tr n)) (i j : Nat) (hi : i < n) (hj : j < n)
  (x : Acc) (T : Nat) (hx : tr[i]? = some x) (hT : x.thread = T) (hT16 : T < 16) :
  Calls Tryz.prog 39 #[.agg #[h0, .slice A n k, h2, h3], .slice A2 n k2, .int .i64 i, .int .i64 j] w (BoolR (aheadB c tr i j) w) := by
 have hk1 := h.nk.1
 have hk2 := h.nk.2
 unfold maxLen at hk2
 obtain ⟨b, o, rfl, hb, x0, x1, x2, x3, x4, x5, x6⟩ := h.at_ hx
 obtain ⟨b2, o2, rfl, hb2, hc2⟩ := hA2.2 (by omega)
 rw [hT] at x1
 have c1 : w.cell? ⟨b2, o2 + i * 16 + T, none⟩ = some (.int .i64 (outC c tr i T)) := by rw [Nat.add_assoc]; exact hc2 _ _ (outVals_get c tr n i T hi hT16)
 have c2 : w.cell? ⟨b2, o2 + j * 16 + T, none⟩ = some (.int .i64 (outC c tr j T)) := by rw [Nat.add_assoc]; exact hc2 _ _ (outVals_get c tr n j T hj hT16)
 have e1 : (i : Int) < n := by omega
 have e2 : (j : Int) < n := by omega
 have e3 : (T : Int) < 16 := by omega
 have e4 : (0 : Int) <= i := by omega
 have e5 : (0 : Int) <= j := by omega
 have e6 : (0 : Int) <= T := by omega
 clear x0 x2 x3 x4 x5 x6 hA2 hc2 h
 by_cases hij : i = j
 ·subst hij
  have b1 : ((i : Int) != (i : Int)) = false := by simp
  have HB := Lh (aheadB_same c tr i)
  clear hx hT
  go_enter Tryz.func39, Tryz.ntmps39
  go_upto_region 2 with fail
  go_quiet (fail)
  go_wp2_with fail
  go_ret
  exact ⟨by rw [HB.o]; rfl, ((Below.refl _ _).alloc (Nat.le_refl _) _).drewN _⟩
 ·have b1 : ((i : Int) != (j : Int)) = true := by simp; omega
  have HB := Lh (aheadB_at (c := c) hx hT hij)
  clear hx hT
  go_enter Tryz.func39, Tryz.ntmps39
  go_upto_region 2 with fail
  go_quiet (fail)
  go_wp2_with fail
  go_ret
  exact ⟨by rw [HB.o]; rfl, ((Below.refl _ _).alloc (Nat.le_refl _) _).drewN _⟩
theorem runErr_ok {c : Cfg} {tr : List Acc} (h : runErr c tr = 0) : okC c = true /\ tr.all (accB c) = true := by
 unfold runErr at h
 cases h1 : okC c with
 | false => rw [h1] at h; cases h
 | true =>
  rw [h1] at h
  cases h2 : tr.all (accB c) with
  | true => exact ⟨rfl, rfl⟩
  | false => rw [h2] at h; cases h
theorem acc_thread {c : Cfg} {tr : List Acc} (h : runErr c tr = 0) {i : Nat} {x : Acc} (hx : tr[i]? = some x) : ∃ T : Nat, x.thread = T /\ T < 16 /\ (T : Int) < c.threads := by
 obtain ⟨h1, h2⟩ := runErr_ok h
 have ha := List.all_eq_true.1 h2 x (List.mem_of_getElem? hx)
 have ht := ((okC_iff c).1 h1).t2
 simp [accB] at ha
 exact ⟨x.thread.toNat, by omega, by omega, by omega⟩
end Go.Proofs.YtgjdgapfnfhklaaGreat
namespace Go.Proofs.YtgjdgapfnfhklaaGreat
open Go.RowKit
end Go.Proofs.YtgjdgapfnfhklaaGreat
namespace Go.Proofs.YtgjdgapfnfhklaaGreat
open Go.RowKit
def raceC (c : Cfg) (tr : List Acc) (j : Nat) (y : Acc) (i : Nat) : Bool :=
 match tr[i]? with
 | some x => !decide (x.thread = y.thread) && ((wroteB x || wroteB y) && !aheadB c tr i j)
 | none => false
theorem raceC_at {c : Cfg} {tr : List Acc} {i j : Nat} {x y : Acc} (hx : tr[i]? = some x) : raceC c tr j y i = (!decide (x.thread = y.thread) && ((wroteB x || wroteB y) && !aheadB c tr i j)) := by
 unfold raceC
 rw [hx]
def idxP (tr : List Acc) : Nat -> Int -> List Nat
 | 0, _ => []
 | j + 1, a => idxP tr j a ++ (match tr[j]? with | some x => if x.addr = a then [j] else [] | none => [])
theorem idxP_own {tr : List Acc} {j : Nat} {x : Acc} (hx : tr[j]? = some x) : idxP tr (j + 1) x.addr = idxP tr j x.addr ++ [j] := by
 show _ ++ (match tr[j]? with | some x' => if x'.addr = x.addr then [j] else [] | none => []) = _
 rw [hx]
 simp
theorem idxP_other {tr : List Acc} {j : Nat} {x : Acc} {a : Int} (hx : tr[j]? = some x) (h : a ≠ x.addr) : idxP tr (j + 1) a = idxP tr j a := by
 show _ ++ (match tr[j]? with | some x' => if x'.addr = a then [j] else [] | none => []) = _
 rw [hx]
 simp [Ne.symm h]
theorem idxP_lt {tr : List Acc} {a : Int} : ∀ {j i : Nat}, i ∈ idxP tr j a -> i < j
 | 0, _, h => by cases h
 | j + 1, i, h => by
  rcases List.mem_append.1 h with h | h
  ·have := idxP_lt h
   omega
  ·split at h
   ·split at h
    ·simp at h; omega
    ·cases h
   ·cases h
theorem idxP_len (tr : List Acc) (a : Int) : ∀ j, (idxP tr j a).length <= j
 | 0 => Nat.le_refl _
 | j + 1 => by
  have := idxP_len tr a j
  show List.length (_ ++ _) <= _
  rw [List.length_append]
  split
  ·split <;> simp <;> omega
  ·simp; omega
abbrev Rc := Nat × Nat × Int
def raceAt (c : Cfg) (tr : List Acc) (j : Nat) : List Rc :=
 match tr[j]? with
 | some y => if plainB c y.addr then (match (idxP tr j y.addr).find? (raceC c tr j y) with | some i => [(i, j, y.addr)] | none => []) else []
 | none => []
def racesV (c : Cfg) (tr : List Acc) : Nat -> List Rc
 | 0 => []
 | j + 1 => racesV c tr j ++ raceAt c tr j
section
variable {c : Cfg} {tr : List Acc} {j i : Nat} {y : Acc}
theorem racesV_not (hy : tr[j]? = some y) (hp : plainB c y.addr = false) : racesV c tr (j + 1) = racesV c tr j := by
 show _ ++ raceAt c tr j = _
 unfold raceAt
 rw [hy]
 simp [hp]
theorem racesV_none (hy : tr[j]? = some y) (hf : (idxP tr j y.addr).find? (raceC c tr j y) = none) : racesV c tr (j + 1) = racesV c tr j := by
 show _ ++ raceAt c tr j = _
 unfold raceAt
 rw [hy]
 simp only [hf]
 split <;> simp
theorem racesV_one (hy : tr[j]? = some y) (hp : plainB c y.addr = true) (hf : (idxP tr j y.addr).find? (raceC c tr j y) = some i) : racesV c tr (j + 1) = racesV c tr j ++ [(i, j, y.addr)] := by
 show _ ++ raceAt c tr j = _
 unfold raceAt
 rw [hy]
 simp only [hf, hp, if_true]
theorem raceAt_len : (raceAt c tr j).length <= 1 := by
 unfold raceAt
 split
 ·split
  ·split <;> simp
  ·simp
 ·simp
end
theorem racesV_len (c : Cfg) (tr : List Acc) : ∀ j, (racesV c tr j).length <= j
 | 0 => Nat.le_refl _
 | j + 1 => by
  have h1 := racesV_len c tr j
  have h2 := raceAt_len (c := c) (tr := tr) (j := j)
  show List.length (_ ++ _) <= _
  rw [List.length_append]
  omega
def rcVals (l : List Rc) : List Value := l.flatMap fun r => [.int .i64 r.1, .int .i64 r.2.1, .int .i64 r.2.2]
theorem rcVals_snoc (l : List Rc) (r : Rc) : rcVals (l ++ [r]) = rcVals l ++ [.int .i64 r.1, .int .i64 r.2.1, .int .i64 r.2.2] := by
 unfold rcVals
 rw [List.flatMap_append]
 simp
end Go.Proofs.YtgjdgapfnfhklaaGreat
namespace Go.Proofs.YtgjdgapfnfhklaaGreat
open Go.RowKit Go.Maps Go.WideElems Go.ChangeShapes
theorem pair_uniq {es : List MapEntry} (h : es.Pairwise (fun x y => x.key ≠ y.key)) {x y : MapEntry} (hx : x ∈ es) (hy : y ∈ es) (he : x.key = y.key) : x = y := by
 induction es with
 | nil => cases hx
 | cons a es ih =>
  rw [List.pairwise_cons] at h
  rcases List.mem_cons.1 hx with hx1 | hx1
  ·rcases List.mem_cons.1 hy with hy1 | hy1
   ·rw [hx1, hy1]
   ·exact absurd he (by rw [hx1]; exact h.1 y hy1)
  ·rcases List.mem_cons.1 hy with hy1 | hy1
   ·exact absurd he.symm (by rw [hy1]; exact h.1 x hx1)
   ·exact ih h.2 hx1 hy1
theorem look_same {P : Program} {t k E : TypeId} {w w' : World} {b : Nat} {es : Array MapEntry} {clock : Nat} {H : Type} {R : Value -> Option (DataW H × List MemPlace)} (K : Keyed P k) (ht : P.underlying t = some (.map k E)) {z : Value} (hz : (zeroValue E).run P w = .ok z w) (hz' : (zeroValue E).run P w' = .ok z w')
  (hb : w.heap[b]? = some (.map es clock)) (hb' : w'.heap[b]? = some (.map es clock)) (F : Fit P k R es clock) {key : Value} {kl : Go.Lit} (hkey : keyOf P k key = some kl) {v : Value}
  (hr : (Instr.lookup t (.map (some b)) key false).run P w = .ok v w) : (Instr.lookup t (.map (some b)) key false).run P w' = .ok v w' := by
 have hpw : es.toList.Pairwise (fun x y => x.key ≠ y.key) := ((MapKept.stamped_iff es clock).1 F.stamped).2.2
 rcases Maps.fit_look false K ht hz hb F hkey with ⟨h1, h2, _⟩ | ⟨e, _, hm, hk, h1, _⟩ <;> rcases Maps.fit_look false K ht hz' hb' F hkey with ⟨h1', h2', _⟩ | ⟨e', _, hm', hk', h1', _⟩
 ·rw [h1] at hr
  rw [h1']
  injection hr with hr
  rw [hr]
 ·exact absurd hk' (h2 e' hm')
 ·exact absurd hk (h2' e hm)
 ·rw [h1] at hr
  rw [h1']
  injection hr with hr
  rw [pair_uniq hpw hm' hm (hk'.trans hk.symm), hr]
def itemsG : DataW Unit -> List (DataW Unit)
 | .slice es _ => es
 | _ => []
theorem items_row {w : World} {base : Nat} {e : TypeId} {q : IntKind} {v : Value} {zs : List Int} (h : w.ownsInts base e q v zs) : itemsG (rowDatum q v zs) = lits q zs := by
 rcases h.datum (H := Unit) with ⟨h1, h2⟩ | h1
 ·rw [h1, h2]
  rfl
 ·rw [h1]
  rfl
theorem lits_inj {q : IntKind} {zs zs' : List Int} (h : lits (H := Unit) q zs = lits q zs') : zs = zs' := by
 refine (List.map_inj_right (fun a b hab => ?_)).1 h
 injection hab with hab
 injection hab
abbrev toI (l : List Nat) : List Int := l.map (fun i : Nat => (i : Int))
theorem law_int' : Keyed Tryz.prog 3 := int_keyed Tryz.underlying3
theorem zero_ints (w : World) : (zeroValue 22).run Tryz.prog w = .ok (.slice none 0 0) w := by
 have h : (Tryz.prog.info? 22).map (fun i => (i.zero, i.size)) = some (some (.slice none 0 0), 1) := by kernel_rfl
 exact (zero_of_info h).1 w
def GrMap (w : World) (b base n : Nat) (c : Cfg) (tr : List Acc) (j : Nat) : Prop :=
 ∃ D : DataW Unit, w.ownsGroups Tryz.prog 3 base 3 .i64 b n D /\ IsMap D /\ ∀ a : Int, plainB c a = true -> itemsG (D.atKey (.int .i64 a) .nil) = lits .i64 (toI (idxP tr j a))
structure Gs (wb : World) (ga : Nat) (v : Value) (N : Nat) (L : List Value) (c : Cfg) (tr : List Acc) (m j : Nat) (W : World) : Prop where
 bel : Below wb.heap.size wb W
 mp : GrMap W wb.heap.size (wb.heap.size + 1) m c tr j
 own : W.ownsRow (wb.heap.size + 1) 60 3 v N L
 sh : W.Shuns wb.heap.size (fun g => v.ownBlock = some g ∨ g = ga)
section
variable {wb : World} {ga : Nat} {v : Value} {N : Nat} {L : List Value} {c : Cfg} {tr : List Acc} {m j : Nat} {W : World}
theorem Gs.lt (h : Gs wb ga v N L c tr m j W) : wb.heap.size < W.heap.size := by
 obtain ⟨D, ⟨es, clock, hb, _⟩, _⟩ := h.mp
 exact (Array.getElem?_eq_some_iff.1 hb).1
theorem Gs.start : Gs wb ga (.slice none 0 0) 0 [] c tr 0 0 (wb.alloc (.map #[] 0)) :=
 ⟨(Below.refl _ _).alloc (Nat.le_refl _) _, ⟨.map [], World.ownsGroups_made _ _ _ _ _, isMap_empty, fun _ _ => rfl⟩, World.ownsRow_nil _ _ _ _, World.Shuns_made _ _⟩
theorem Gs.keep {W' : World} (h : Gs wb ga v N L c tr m j W) (hb : Below W.heap.size W W') : Gs wb ga v N L c tr m j W' := by
 have hg := gb_below hb none
 obtain ⟨D, h1, h2, h3⟩ := h.mp
 exact ⟨h.bel.trans (hb.mono h.bel.size), ⟨D, h1.kept hg (by simp) (fun es clock _ x _ => by cases x.val.ownBlock <;> simp), h2, h3⟩, h.own.below hb, h.sh.kept hg h.lt (by simp)⟩
theorem Gs.drew (h : Gs wb ga v N L c tr m j W) : Gs wb ga v N L c tr m j W.drew := h.keep (Below.refl _ _).drew
theorem Gs.alloc (h : Gs wb ga v N L c tr m j W) (o : Obj) : Gs wb ga v N L c tr m j (W.alloc o) := h.keep ((Below.refl _ _).alloc (Nat.le_refl _) _)
theorem Gs.skip {y : Acc} (h : Gs wb ga v N L c tr m j W) (hy : tr[j]? = some y) (hp : plainB c y.addr = false) : Gs wb ga v N L c tr m (j + 1) W := by
 obtain ⟨D, h1, h2, h3⟩ := h.mp
 exact ⟨h.bel, ⟨D, h1, h2, fun a ha => by rw [h3 a ha, idxP_other hy (fun he => by rw [he, hp] at ha; cases ha)]⟩, h.own, h.sh⟩
theorem Gs.aim (h : Gs wb ga v N L c tr m j W) : Gs wb W.heap.size v N L c tr m j W := by
 obtain ⟨D, h1, h2, h3⟩ := h.mp
 exact ⟨h.bel, ⟨D, h1, h2, h3⟩, h.own, h.sh.reno h1 (fun g hg => by
  rcases hg with hg | hg
  ·exact Or.inl (Or.inl hg)
  ·exact Or.inr (by omega))⟩
theorem Gs.race {W' : World} {v' : Value} {N' : Nat} {L' : List Value} (h : Gs wb ga v N L c tr m j W) (hg : W.grownBy W' v.ownBlock) (hown : W'.ownsRow (wb.heap.size + 1) 60 3 v' N' L') (hat : v'.ownBlock = v.ownBlock ∨ v'.ownBlock = some W.heap.size) : Gs wb ga v' N' L' c tr m j W' := by
 obtain ⟨D, h1, h2, h3⟩ := h.mp
 have hne : some wb.heap.size ≠ v.ownBlock := fun he => by have := (h.own.lt _ he.symm).1; omega
 refine ⟨h.bel.grown hg h.bel.size (fun q hq => by have := (h.own.lt q hq).1; omega), ⟨D, h1.kept hg hne (h.sh.rowsOff (fun q hq => Or.inl hq)), h2, h3⟩, hown, ?_⟩
 have hs : W.Shuns wb.heap.size (fun g => v'.ownBlock = some g ∨ g = ga) := h.sh.reno h1 (fun g hg' => by
  rcases hg' with hg' | hg'
  ·rcases hat with he | he
   ·exact Or.inl (Or.inl (he ▸ hg'))
   ·rw [he] at hg'
    injection hg' with hg'
    exact Or.inr (by omega)
  ·exact Or.inl (Or.inr hg'))
 exact hs.kept hg h.lt hne
theorem Gs.look {y : Acc} (h : Gs wb ga v N L c tr m j W) (hy : tr[j]? = some y) (hp : plainB c y.addr = true) (hm : m <= j) (hj : j < 1099511627776) (hga : ga < W.heap.size) (ha : -9223372036854775808 <= y.addr /\ y.addr <= 9223372036854775807) :
  ∃ A k, (∀ W', Below W.heap.size W W' -> (Instr.lookup 127 (.map (some wb.heap.size)) (.int .i64 y.addr) false).run Tryz.prog W' = .ok (.slice A (idxP tr j y.addr).length k) W') /\
   W.ownsRow (wb.heap.size + 1) 3 1 (.slice A (idxP tr j y.addr).length k) (idxP tr j y.addr).length (ints (toI (idxP tr j y.addr))) /\ some ga ≠ (Value.slice A (idxP tr j y.addr).length k).ownBlock /\
   ∀ W1 A' k', W.grownBy W1 (Value.slice A (idxP tr j y.addr).length k).ownBlock -> W1.ownsRow (wb.heap.size + 1) 3 1 (.slice A' ((idxP tr j y.addr).length + 1) k') ((idxP tr j y.addr).length + 1) (ints (toI (idxP tr j y.addr)) ++ [.int .i64 j]) ->
    ((Value.slice A' ((idxP tr j y.addr).length + 1) k').ownBlock = (Value.slice A (idxP tr j y.addr).length k).ownBlock ∨ ∃ g, (Value.slice A' ((idxP tr j y.addr).length + 1) k').ownBlock = some g /\ W.heap.size <= g) ->
    ∃ W2, (Instr.mapUpdate 127 (.map (some wb.heap.size)) (.int .i64 y.addr) (.slice A' ((idxP tr j y.addr).length + 1) k')).run Tryz.prog W1 = .ok () W2 /\ Gs wb ga v N L c tr (m + 1) (j + 1) W2 := by
 obtain ⟨D, h1, h2, h3⟩ := h.mp
 have hkey := Go.Maps.keyOf_int_mk Tryz.underlying3 (wf_i64 ha)
 have hmx : m < maxLen := by simp only [maxLen]; omega
 obtain ⟨u, zs, hrun, hat, hoi, hzl, hback⟩ := h1.at law_int' Tryz.underlying127 (zero_ints W) hmx hkey
 have hzs : zs = toI (idxP tr j y.addr) := by
  have h4 := h3 y.addr hp
  rw [hat, items_row hoi] at h4
  exact lits_inj h4
 subst hzs
 have hlen : (toI (idxP tr j y.addr)).length = (idxP tr j y.addr).length := by simp
 obtain ⟨A, k, rfl, hk1, hk2⟩ := own_form hoi.1
 rw [hlen] at hrun hoi hback hzl hat
 have hnw : ∀ g, (Value.slice A (idxP tr j y.addr).length k).ownBlock = some g -> ¬ (v.ownBlock = some g ∨ g = ga) := by
  obtain ⟨es, clock, hbk, F, _⟩ := h1
  intro g hg hv
  rcases Maps.fit_look false law_int' Tryz.underlying127 (zero_ints W) hbk F hkey with ⟨hrun', _, _⟩ | ⟨e0, z0, hm0, _, hrun', _, _, _⟩
  ·rw [hrun] at hrun'
   injection hrun' with hrun'
   rw [show (Value.slice A (idxP tr j y.addr).length k) = .slice none 0 0 from hrun'] at hg
   cases hg
  ·rw [hrun] at hrun'
   injection hrun' with hrun'
   exact h.sh es clock hbk e0 hm0 g (by rw [<- show (Value.slice A (idxP tr j y.addr).length k) = e0.val from hrun']; exact hg) hv
 refine ⟨A, k, fun W' hb => ?_, by have h9 := hoi.1; rw [hlen] at h9; exact h9, fun he => hnw _ he.symm (Or.inr rfl), fun W1 A' k' hgr hown' hloc => ?_⟩
 ·obtain ⟨es, clock, hbk, F, _⟩ := h1
  exact look_same law_int' Tryz.underlying127 (zero_ints W) (zero_ints W') hbk ((hb.block _ h.lt).trans hbk) F hkey hrun
 ·have hnew : W1.ownsInts (wb.heap.size + 1) 3 .i64 (.slice A' ((idxP tr j y.addr).length + 1) k') (toI (idxP tr j y.addr) ++ [(j : Int)]) :=
   hoi.appended (x := (j : Int)) (by rw [hlen]; exact hown') (wf_i64 (by omega))
  obtain ⟨W2, hrun2, r1, r2⟩ := hback W1 _ _ hgr hnew (by rw [List.length_append, hlen]; simp; omega) hloc
  refine ⟨W2, hrun2, ?_⟩
  have hne1 : v.ownBlock = none ∨ v.ownBlock ≠ (Value.slice A (idxP tr j y.addr).length k).ownBlock := by
   cases hv : v.ownBlock with
   | none => exact Or.inl rfl
   | some g => exact Or.inr (fun he => hnw g he.symm (Or.inl hv))
  have hown1 : W1.ownsRow (wb.heap.size + 1) 60 3 v N L := h.own.kept hgr hne1
  have hne2 : v.ownBlock = none ∨ v.ownBlock ≠ some wb.heap.size := own_ne h.own (by omega)
  have hb1 : Below wb.heap.size wb W1 := h.bel.grown hgr h.bel.size (fun q hq => by have := (hoi.1.lt q hq).1; omega)
  refine ⟨hb1.grown r2 hb1.size (fun q hq => by injection hq with hq; omega), ⟨_, r1, h2.put _ _, fun a hpa => ?_⟩, hown1.kept r2 hne2, ?_⟩
  ·by_cases hay : a = y.addr
   ·subst hay
    rw [atKey_put_same h2 (by exact True.intro), items_row hnew, idxP_own hy]
    simp [toI]
   ·rw [atKey_put_other (by intro he; injection he with _ he; exact hay he), h3 a hpa, idxP_other hy hay]
  ·obtain ⟨es, clock, hbk, F, hs, _, hbb, _⟩ := h1
   have hb1' : W1.heap[wb.heap.size]? = some (.map es clock) := (hgr.block _ h.lt (fun e1 => by have := (hoi.1.lt _ e1.symm).1; omega)).trans hbk
   obtain ⟨es', clock', hb2, hwho⟩ := stored_who law_int' Tryz.underlying127 hb1' F (Nat.lt_of_le_of_lt hs hmx) hkey hrun2
   intro es2 clock2 hb2' x hx g hxg hvg
   obtain ⟨rfl, rfl⟩ : es' = es2 /\ clock' = clock2 := by rw [hb2] at hb2'; simpa using hb2'
   rcases hwho x hx with ⟨hx0, _⟩ | ⟨_, hval⟩
   ·exact h.sh es clock hbk x hx0 g hxg hvg
   ·rw [hval] at hxg
    rcases hloc with he | ⟨g', he, hg'⟩
    ·rw [he] at hxg
     exact hnw g hxg hvg
    ·rw [he] at hxg
     injection hxg with hxg
     rcases hvg with hvg | hvg
     ·have := (h.own.lt g hvg).2
      omega
     ·omega
end
end Go.Proofs.YtgjdgapfnfhklaaGreat
