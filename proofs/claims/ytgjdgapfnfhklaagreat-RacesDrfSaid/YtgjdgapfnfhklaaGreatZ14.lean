/-
slices.SortFunc at finals: the shelf's law laid, and what is
-/
import Derived.Test.YtgjdgapfnfhklaaGreatZ17
import Derived.Test.YtgjdgapfnfhklaaGreatQcp
import Derived.Shelf.SlSortCmp.WholeK
import Derived.Shelf.SlSortCmp.NoneTotal
import Derived.Test.YtgjdgapfnfhklaaGreatQwl
import Derived.Test.YtgjdgapfnfhklaaGreatZ13
set_option linter.unusedSimpArgs false
set_option linter.unusedVariables false
set_option maxRecDepth 100000
set_option maxHeartbeats 16000000
namespace Go.Proofs.YtgjdgapfnfhklaaGreat
open Go.RowKit Go.Shelf
open Go.Sort (putRowK putRow size_putRowK HoldsK flatK size_flatK get_flatK)
def sortF_ren : Go.Shelf.Ren := ⟨fun | 6 => 31 | 15 => 64 | 14 => 63 | 28 => 94 | 29 => 95 | 20 => 86 | 21 => 87 | 22 => 88 | 23 => 89 | 24 => 90 | 25 => 91 | 26 => 92 | 27 => 93 | 46 => 101 | 47 => 102 | 48 => 103 | 49 => 104 | 50 => 105 | 57 => 107 | n => n, fun | 22 => 34 | 24 => 42 | 25 => 121 | 3 => 3 | 39 => 164 | 0 => 0 | 53 => 203 | 55 => 47 | 4 => 4 | 46 => 197 | 45 => 196 | 50 => 84 | 5 => 5 | 9 => 9 | 66 => 214 | 70 => 212 | 76 => 219 | 77 => 220 | n => n, fun n => n⟩
theorem sortF : SlLaysF0.n6 Tryz.prog sortF_ren := {
 mixed := by kernel_rfl
 f6 := ⟨Tryz.f31.name, by decide, Tryz.func31.trans (congrArg some (by kernel_rfl))⟩
 f14 := ⟨Tryz.f63.name, by decide, Tryz.func63.trans (congrArg some (by kernel_rfl))⟩
 f15 := Tryz.func64.trans (congrArg some (by kernel_rfl))
 f20 := ⟨Tryz.f86.name, by decide, Tryz.func86.trans (congrArg some (by kernel_rfl))⟩
 f21 := ⟨Tryz.f87.name, by decide, Tryz.func87.trans (congrArg some (by kernel_rfl))⟩
 f22 := ⟨Tryz.f88.name, by decide, Tryz.func88.trans (congrArg some (by kernel_rfl))⟩
 f23 := ⟨Tryz.f89.name, by decide, Tryz.func89.trans (congrArg some (by kernel_rfl))⟩
 f24 := ⟨Tryz.f90.name, by decide, Tryz.func90.trans (congrArg some (by kernel_rfl))⟩
 f25 := ⟨Tryz.f91.name, by decide, Tryz.func91.trans (congrArg some (by kernel_rfl))⟩
 f26 := ⟨Tryz.f92.name, by decide, Tryz.func92.trans (congrArg some (by kernel_rfl))⟩
 f27 := ⟨Tryz.f93.name, by decide, Tryz.func93.trans (congrArg some (by kernel_rfl))⟩
 f28 := Tryz.func94.trans (congrArg some (by kernel_rfl))
 f29 := Tryz.func95.trans (congrArg some (by kernel_rfl))
 f46 := ⟨Tryz.f101.name, by decide, Tryz.func101.trans (congrArg some (by kernel_rfl))⟩
 f47 := Tryz.func102.trans (congrArg some (by kernel_rfl))
 f48 := Tryz.func103.trans (congrArg some (by kernel_rfl))
 f49 := ⟨Tryz.f104.name, by decide, Tryz.func104.trans (congrArg some (by kernel_rfl))⟩
 f50 := ⟨Tryz.f105.name, by decide, Tryz.func105.trans (congrArg some (by kernel_rfl))⟩
 f57 := ⟨Tryz.f107.name, by decide, Tryz.func107.trans (congrArg some (by kernel_rfl))⟩
 t0 := Tryz.underlying0
 a0 := Tryz.isAgg0
 z0 := Tryz.sizeOf0
 v0 := Tryz.zeroValue0
 t3 := Tryz.underlying3
 a3 := Tryz.isAgg3
 z3 := Tryz.sizeOf3
 v3 := Tryz.zeroValue3
 t4 := Tryz.underlying4
 a4 := Tryz.isAgg4
 z4 := Tryz.sizeOf4
 v4 := Tryz.zeroValue4
 t5 := Tryz.underlying5
 a5 := Tryz.isAgg5
 z5 := Tryz.sizeOf5
 v5 := Tryz.zeroValue5
 t9 := Tryz.underlying9
 a9 := Tryz.isAgg9
 z9 := Tryz.sizeOf9
 v9 := Tryz.zeroValue9
 t22 := Tryz.underlying34
 a22 := Tryz.isAgg34
 z22 := Tryz.sizeOf34
 v22 := Tryz.zeroValue34
 t25 := Tryz.underlying121
 a25 := Tryz.isAgg121
 z25 := Tryz.sizeOf121
 v25 := Tryz.zeroValue121
 t39 := Tryz.underlying164
 a39 := Tryz.isAgg164
 z39 := Tryz.sizeOf164
 v39 := Tryz.zeroValue164
 t45 := Tryz.underlying196
 a45 := Tryz.isAgg196
 z45 := Tryz.sizeOf196
 v45 := Tryz.zeroValue196
 t46 := Tryz.underlying197
 a46 := Tryz.isAgg197
 z46 := Tryz.sizeOf197
 v46 := Tryz.zeroValue197
 t50 := Tryz.underlying84
 a50 := Tryz.isAgg84
 z50 := Tryz.sizeOf84
 v50 := Tryz.zeroValue84
 t53 := Tryz.underlying203
 a53 := Tryz.isAgg203
 z53 := Tryz.sizeOf203
 v53 := Tryz.zeroValue203
 t55 := Tryz.underlying47
 a55 := Tryz.isAgg47
 z55 := Tryz.sizeOf47
 v55 := Tryz.zeroValue47
 t66 := Tryz.underlying214
 a66 := Tryz.isAgg214
 z66 := Tryz.sizeOf214
 v66 := Tryz.zeroValue214
 t70 := Tryz.underlying212
 a70 := Tryz.isAgg212
 z70 := Tryz.sizeOf212
 v70 := Tryz.zeroValue212
 t76 := Tryz.underlying219
 a76 := Tryz.isAgg219
 z76 := Tryz.sizeOf219
 v76 := Tryz.zeroValue219
 t77 := Tryz.underlying220
 a77 := Tryz.isAgg220
 z77 := Tryz.sizeOf220
 v77 := Tryz.zeroValue220 }
/-! the finals of a list, and their order -/
abbrev FS (fs : List FE) := { x : FE // x ∈ fs }
def FS.enc {fs : List FE} (n nw : Nat) (x : FS fs) : List Value := FE.cs n nw x.1
def FS.cf {fs : List FE} (x y : FS fs) : Int := ordK x.1.k y.1.k
theorem FS.swo (fs : List FE) : Sort.SWO (ltOf (FS.cf (fs := fs))) where
 irrefl x := by unfold ltOf FS.cf ordK; rw [cmpL_self]; rfl
 trans x y z h1 h2 := by
  unfold ltOf FS.cf ordK at *
  exact decide_eq_true (cmpL_trans (of_decide_eq_true h1) (of_decide_eq_true h2))
 ntrans x y z h1 h2 := by
  unfold ltOf FS.cf ordK at *
  have h1 := of_decide_eq_false h1
  have h2 := of_decide_eq_false h2
  refine decide_eq_false fun h3 => ?_
  have a1 := cmpL_anti (x.1.k.1 ++ x.1.k.2) (y.1.k.1 ++ y.1.k.2)
  have a2 := cmpL_anti (y.1.k.1 ++ y.1.k.2) (z.1.k.1 ++ z.1.k.2)
  by_cases e1 : cmpL (x.1.k.1 ++ x.1.k.2) (y.1.k.1 ++ y.1.k.2) = 0
  ·rw [cmpL_zero e1] at h3
   exact h2 h3
  ·have h4 : cmpL (y.1.k.1 ++ y.1.k.2) (x.1.k.1 ++ x.1.k.2) < 0 := by omega
   exact h2 (cmpL_trans h4 h3)
theorem sort_grown {α : Type} [Inhabited α] {enc : α -> List Value} {k : Nat} {w : World} {g n : Nat} {os : Array Obj} (d : Array α) : w.grownBy (sortWorldK enc k w g 0 n d os) (some g) := by
 unfold sortWorldK
 refine ⟨rfl, rfl, rfl, ?_, fun j hj hne => ?_⟩
 ·rw [Sort.size_grow, size_putRowK]
  exact Nat.le_add_right _ _
 ·rw [Sort.heap_grow_old _ _ (by rw [size_putRowK]; exact hj)]
  have : g ≠ j := fun e => hne (by rw [e])
  simp [putRowK, Sort.putRow, Sort.mapBlock, Sort.ahead, Array.getElem?_modify, this]
theorem FeAt.gb {W W' : World} {n nw g : Nat} {x : FE} (h : FeAt W n nw x) (hb : W.grownBy W' (some g)) (h1 : x.gw ≠ g) (h2 : x.gr ≠ g) : FeAt W' n nw x :=
 ⟨h.w.grown hb (fun e => h1 (by injection e)), h.r.grown hb (fun e => h2 (by injection e))⟩
theorem feVals_get {n nw : Nat} {fs : List FE} {j : Nat} {x : FE} (hx : fs[j]? = some x) (i : Nat) (hi : i < 2) : (fs.flatMap (FE.cs n nw))[j * 2 + i]? = (FE.cs n nw x)[i]? := flat_get (FE.cs n nw) 2 (fun _ => rfl) hx i hi
theorem flatK_get {fs : List FE} [Inhabited (FS fs)] {n nw : Nat} {d : Array (FS fs)} {j : Nat} (hj : j < d.size * 2) : some (Go.Sort.flatK (FS.enc n nw) 2 d)[j]! = ((d.toList.map (·.1)).flatMap (FE.cs n nw))[j]? := by
 rw [get_flatK _ _ _ _ hj]
 have h1 : j / 2 < d.size := by omega
 have h2 : (d.toList.map (·.1))[j / 2]? = some (d[j / 2]!).1 := by
  rw [List.getElem?_map, Array.getElem?_toList, Array.getElem?_eq_getElem h1, getElem!_pos d (j / 2) h1]
  rfl
 have h3 := feVals_get (n := n) (nw := nw) h2 (j % 2) (by omega)
 rw [show j / 2 * 2 + j % 2 = j by omega] at h3
 rw [h3]
 have h4 : j % 2 = 0 ∨ j % 2 = 1 := by omega
 rcases h4 with e | e <;> rw [e] <;> rfl
theorem pair_of {α : Type} [Inhabited α] {lt : α -> α -> Bool} {d : Array α} (h : Sort.SortedIn lt 0 d.size d) : d.toList.Pairwise (fun x y => lt y x = false) := by
 refine List.pairwise_iff_getElem.2 fun i j hi hj hij => ?_
 have hi' : i < d.size := by simpa using hi
 have hj' : j < d.size := by simpa using hj
 have := h i j (Nat.zero_le _) hij hj'
 rw [getElem!_pos d i hi', getElem!_pos d j hj'] at this
 simpa using this
theorem sortF_any (n nw C g cap : Nat) (fs : List FE) (w : World) (h0 : 0 < fs.length) (hm : fs.length <= 30000) (ho : w.ownsRow C 42 2 (.slice (some ⟨g, 0, none⟩) fs.length cap) fs.length (fs.flatMap (FE.cs n nw))) (hf : ∀ x ∈ fs, FeAt w n nw x) (hn : n <= 4) (hw : nw <= 6) :
  Calls Tryz.prog 31 #[.slice (some ⟨g, 0, none⟩) fs.length cap, .func (.func 32) #[] #[]] w (fun e w' => e = .returned (.tuple #[]) /\ w.grownBy w' (some g) /\ ∃ fs' : List FE, fs'.Perm fs /\ fs'.Pairwise (fun x y => ¬ ordK y.k x.k < 0) /\ ∀ j v, (fs'.flatMap (FE.cs n nw))[j]? = some v -> w'.cell? ⟨g, j, none⟩ = some v) := by
 haveI : Inhabited (FS fs) := ⟨⟨fs[0], List.getElem_mem h0⟩⟩
 have hg : g < w.heap.size := (ho.lt g rfl).2
 have hne : ∀ x ∈ fs, x.gw ≠ g /\ x.gr ≠ g := fun x hx => ⟨fun e => own_nr ho (hf x hx).w (by decide) (by rw [e]; rfl), fun e => own_nr ho (hf x hx).r (by decide) (by rw [e]; rfl)⟩
 have hsz : fs.attach.toArray.size = fs.length := by simp
 have hmap : fs.attach.toArray.toList.map (·.1) = fs := by simp
 have hH : HoldsK (FS.enc n nw) 2 w g 0 fs.attach.toArray := fun j hj => by
  rw [size_flatK] at hj
  have h9 := flatK_get (n := n) (nw := nw) hj
  rw [hmap] at h9
  rw [hsz] at hj
  rw [Nat.zero_add]
  exact ⟨(ho.cellAt j hj).trans h9.symm, ho.frozenAt j⟩
 have eg : ∀ args w, (callFunc 32 args).run Tryz.prog w = .ok (.enter 32 args) w := enters_of Tryz.func32 (by kernel_rfl) rfl
 have hcmp : CmpLays Tryz.prog 32 #[] (FS.enc n nw) 2 FS.cf g 0 fs.attach.toArray.size w := fun m os dk _ x y => by
  have hgb := sort_grown (enc := FS.enc (fs := fs) n nw) (k := 2) (w := w) (g := g) (n := m) (os := os) dk
  exact order_any n nw x.1 y.1 _ ((hf _ x.2).gb hgb (hne _ x.2).1 (hne _ x.2).2) ((hf _ y.2).gb hgb (hne _ y.2).1 (hne _ y.2).2) hn hw
 have key := AnyQ.slices_SortFunc sortF 2 Tryz.isAgg42 Tryz.sizeOf42 (FS.enc n nw) (fun _ => rfl) (fun x v hv => by simp [FS.enc, FE.cs] at hv; rcases hv with rfl | rfl <;> rfl) FS.cf (FS.swo fs) 32 #[] g 0 cap fs.attach.toArray w eg hcmp hH hg (by rw [hsz]; omega)
 rw [hsz] at key
 refine Calls.mono (show Calls Tryz.prog 31 _ _ _ from key) ?_
 rintro e w' ⟨rfl, d', m, os, hp, hs, rfl⟩
 refine ⟨rfl, sort_grown d', d'.toList.map (·.1), ?_, ?_, fun j v hv => ?_⟩
 ·have h9 := hp.2.2
  have hz := hp.1
  rw [hsz] at hz
  rw [show d'.extract 0 fs.length = d' by rw [<- hz]; simp, show fs.attach.toArray.extract 0 fs.length = fs.attach.toArray by rw [<- hsz]; exact Array.extract_size] at h9
  have h8 := h9.map (·.1)
  rwa [hmap] at h8
 ·have hz := hp.1
  rw [hsz] at hz
  rw [<- hz] at hs
  refine List.pairwise_map.2 ((pair_of hs).imp fun {a b} h9 => ?_)
  exact of_decide_eq_false h9
 ·have hj := (List.getElem?_eq_some_iff.1 hv).1
  have hl : ((d'.toList.map (·.1)).flatMap (FE.cs n nw)).length = d'.size * 2 := by rw [flat_len (FE.cs n nw) 2 (fun _ => rfl)]; simp
  rw [hl] at hj
  have h9 := holdsK_sortWorldK_c (FS.enc n nw) 2 w g 0 fs.attach.toArray d' m os hH hg hp.1 j (by rw [size_flatK]; exact hj)
  rw [Nat.zero_add] at h9
  refine h9.1.trans ?_
  exact (flatK_get hj).trans hv
theorem sortF_nil (p : Option Addr) (cap : Nat) (w : World) : Calls Tryz.prog 31 #[.slice p 0 cap, .func (.func 32) #[] #[]] w (fun e w' => e = .returned (.tuple #[]) /\ w' = w) :=
 AnyF.slices_SortFunc_none sortF p cap (.func (.func 32) #[] #[]) w
end Go.Proofs.YtgjdgapfnfhklaaGreat
namespace Go.Proofs.YtgjdgapfnfhklaaGreat
open Go.RowKit Go.Maps
def feOf (r : SR) : FE := ⟨r.h.gw, r.h.kw, r.h.gr, r.h.kr, r.S.ws, r.S.rs⟩
def finsR (l : Lit) (rs : List SR) : List FE := (rs.filter fun r => finB l r.B).map feOf
theorem finsR_snoc {l : Lit} {rs : List SR} {r : SR} : finsR l (rs ++ [r]) = finsR l rs ++ (if finB l r.B = true then [feOf r] else []) := by
 unfold finsR
 rw [List.filter_append, List.map_append, List.filter_cons, List.filter_nil]
 split <;> rfl
theorem finsR_k {l : Lit} {rs : List SR} : (finsR l rs).map FE.k = ((rs.map SR.B).filter (finB l)).map finK := by
 unfold finsR
 rw [List.filter_map, List.map_map, List.map_map]
 rfl
theorem finsR_len {l : Lit} {rs : List SR} : (finsR l rs).length <= rs.length := by
 unfold finsR
 rw [List.length_map]
 exact List.length_filter_le _ _
theorem finsR_mem {l : Lit} {rs : List SR} {x : FE} (h : x ∈ finsR l rs) : ∃ r ∈ rs, x = feOf r := by
 obtain ⟨r, hr, rfl⟩ := List.mem_map.1 h
 exact ⟨r, (List.mem_filter.1 hr).1, rfl⟩
theorem info_fin : (Tryz.prog.info? 42).map (fun i => (i.zero, i.size, i.bytes)) = some (some (.agg #[.slice none 0 0, .slice none 0 0]), 2, 48) := by kernel_rfl
theorem walkN_le {l : Lit} {o : Nat} {ns : List BS} (h : walkN l o = some ns) : ns.length <= 30000 :=
 (wbfs_cl 30001 (ns := [firstB l]) (i := 0) ⟨by simp, fun B hB => by rw [List.mem_singleton] at hB; subst hB; exact ReB.first, by simp, by simp⟩ (by omega) (fun j B hj => absurd hj (by omega)) h).1.le
def FinR (l : Lit) (w : World) (r : Option (List BS)) (e : Ending) (w' : World) : Prop := match r with
 | none => e = .returned (.tuple #[.slice none 0 0, .int .i64 192]) /\ Below w.heap.size w w'
 | some ns => ∃ (fs : List FE) (A : Option Addr) (k : Nat), e = .returned (.tuple #[.slice A fs.length k, .int .i64 0]) /\ Below w.heap.size w w' /\ Sl w' w'.heap.size 2 A fs.length (fs.flatMap (FE.cs l.tn l.wn)) /\ (∀ x ∈ fs, FeAt w' l.tn l.wn x) /\ (fs.map FE.k).Perm ((ns.filter (finB l)).map finK) /\ (fs.map FE.k).Pairwise (fun x y => ¬ ordK y x < 0)
theorem finals_q (l : Lit) (o : Nat) (w : World) (ho : o = 1 ∨ o = 2 ∨ o = 3) (h : LitAt w w.heap.size l) (hok : okLit l = true) (hwf : WfL l) (hbeg : ∀ W, LitAt W W.heap.size l -> BegS l W) :
  Calls Tryz.prog 9 #[litV l, .int .i64 o] w (FinR l w (walkN l o)) := by
 obtain ⟨n1, n2, n3, n4⟩ := okLit_num hok
 have HB0 : Hid (Blk (w.alloc (.cells #[.slice l.wA l.wn l.wk, .slice l.tA l.tn l.tk] 25)) w.heap.size 25 (litL l)) := Lh (Blk.new _ _ _)
 have HW0 : Hid (Below w.heap.size w (w.alloc (.cells #[.slice l.wA l.wn l.wk, .slice l.tA l.tn l.tk] 25))) := Lh ((Below.refl _ _).alloc (Nat.le_refl _) _)
 have HL := Lh h
 have HOk := Lh hok
 have HWk : Hid (∀ W, Below w.heap.size w W -> Calls Tryz.prog 29 #[litV l, .int .i64 o] W (WalR l W (walkN l o))) := Lh fun W hW => walk_q l o W ho ((h.keep hW).up hW.size) hok hwf hbeg
 obtain ⟨res, hres⟩ : ∃ res, res = walkN l o := ⟨_, rfl⟩
 rw [<- hres] at HWk ⊢
 have HRes := Lh hres
 clear h hok hwf hbeg hres ho
 go_enter Tryz.func9, Tryz.ntmps9
 go_upto_region 1 with fail
 generalize w.alloc (.cells #[.slice l.wA l.wn l.wk, .slice l.tA l.tn l.tk] 25) = w0 at HB0 HW0 ⊢
 have q0 := HB0.o.cell (i := 0) rfl
 have q1 := HB0.o.cell (i := 1) rfl
 go_wp2_with fail
 refine (HWk.o w0 HW0.o).mono ?_
 intro e w1 hwal
 cases res with
 | none =>
  obtain ⟨rfl, hb1⟩ := hwal
  have HW1 := Lh (HW0.o.trans (hb1.mono HW0.o.size))
  clear hb1 q0 q1
  have b1 : ((192 : Int) != 0) = true := rfl
  go_wp2_with fail
  go_ret2
  exact ⟨rfl, HW1.o⟩
 | some ns =>
  obtain ⟨gm, rs, A, k, rfl, hns, hI⟩ := hwal
  have HI := Lh hI
  have HNs := Lh hns
  have HW1 := Lh (HW0.o.trans (hI.bel.mono HW0.o.size))
  have HB1 := Lh (HB0.o.below hI.bel HB0.o.lt)
  have hz01 := hI.bel.size
  clear hI hns q0 q1 HW0 HB0
  obtain ⟨hkN1, hkN2⟩ : rs.length <= k /\ k <= maxLen := by
   obtain ⟨_, _, he, h1, h2⟩ := own_form HI.o.own
   injection he with _ _ he
   subst he
   exact ⟨h1, h2⟩
  have hrm : rs.length <= 30000 := by
   have h9 := walkN_le HRes.o.symm
   rwa [<- HNs.o, List.length_map] at h9
  unfold maxLen at hkN2
  have b1 : ((0 : Int) != 0) = false := rfl
  go_wp2_with fail
  clear b1
  go_loopg [8, 22] rs.length (fun gk s8 s22 wr => ∃ (i : Nat) (fs : List FE) (vN : Value), s8 = vN /\ s22 = .int .i64 i /\ i + gk = rs.length /\ Hid (fs = finsR l (rs.take i)) /\ Hid (Below w1.heap.size w1 wr) /\ Hid (wr.ownsRow w1.heap.size 42 2 vN fs.length (fs.flatMap (FE.cs l.tn l.wn))))
  case atStart => exact ⟨0, [], _, rfl, rfl, by omega, Lh rfl, Lh (Below.refl _ _), Lh (World.ownsRow_nil _ _ _ _)⟩
  case round =>
   obtain ⟨i, fs, vN, hvN, rfl, hgk, HFs, HB, HO⟩ := hrel
   subst hvN
   obtain ⟨AN, kN, hvN, hkF1, hkF2⟩ := own_form HO.o
   subst hvN
   unfold maxLen at hkF2
   have hfl : fs.length <= rs.length := by
    rw [HFs.o]
    exact Nat.le_trans finsR_len (by rw [List.length_take]; omega)
   by_cases hlt : i < rs.length
   ·have e1 : (i : Int) < rs.length := by omega
    have e0 : (0 : Int) <= i := by omega
    obtain ⟨r, hr⟩ := at_lt hlt
    obtain ⟨g, kg, hvg, hcs⟩ := HI.o.cells hr
    injection hvg with hAg _ hkg
    subst hAg hkg
    have hgl : g < w1.heap.size := (HI.o.own.lt g rfl).2
    have hcs2 : ∀ j v, (SR.cs l r)[j]? = some v -> wr.cell? ⟨g, i * 8 + j, none⟩ = some v := fun j v hj => (HB.o.cell (p := ⟨g, i * 8 + j, none⟩) hgl).trans (hcs j v hj)
    have s0 : wr.cell? ⟨g, i * 8, none⟩ = some (.slice (some ⟨r.h.gw, 0, none⟩) l.wn r.h.kw) := hcs2 0 _ rfl
    have s1 : wr.cell? ⟨g, i * 8 + 1, none⟩ = some (.slice (some ⟨r.h.gr, 0, none⟩) l.tn r.h.kr) := hcs2 1 _ rfl
    have s2 : wr.cell? ⟨g, i * 8 + 2, none⟩ = some (.slice (some ⟨r.h.gp, 0, none⟩) l.tn r.h.kp) := hcs2 2 _ rfl
    have s3 : wr.cell? ⟨g, i * 8 + 3, none⟩ = some (.slice (some ⟨r.h.gb, 0, none⟩) l.tn r.h.kb) := hcs2 3 _ rfl
    have s4 : wr.cell? ⟨g, i * 8 + 4, none⟩ = some (.int .i64 r.fr) := hcs2 4 _ rfl
    have s5 : wr.cell? ⟨g, i * 8 + 5, none⟩ = some (.int .i64 r.by_.t) := hcs2 5 _ rfl
    have s6 : wr.cell? ⟨g, i * 8 + 6, none⟩ = some (.bool r.by_.out) := hcs2 6 _ rfl
    have s7 : wr.cell? ⟨g, i * 8 + 7, none⟩ = some (.int .i64 r.by_.a) := hcs2 7 _ rfl
    have HR := Lh hr
    clear hcs hcs2 hr
    go_upto_region 8 with fail
    obtain ⟨g10, hg10⟩ : ∃ g10, g10 = wr.heap.size := ⟨_, rfl⟩
    obtain ⟨X1, hX1, HT1, HX1⟩ : ∃ Z9, Z9 = wr.alloc (.cells #[.slice (some ⟨r.h.gw, 0, none⟩) l.wn r.h.kw, .slice (some ⟨r.h.gr, 0, none⟩) l.tn r.h.kr, .slice (some ⟨r.h.gp, 0, none⟩) l.tn r.h.kp, .slice (some ⟨r.h.gb, 0, none⟩) l.tn r.h.kb, .int .i64 r.fr, .int .i64 r.by_.t, .bool r.by_.out, .int .i64 r.by_.a] 118) /\ Hid (Blk Z9 g10 118 (SR.cs l r)) /\ Hid (Below wr.heap.size wr Z9) := ⟨_, rfl, Lh (by rw [hg10]; exact Blk.new _ _ _), Lh ((Below.refl _ _).alloc (Nat.le_refl _) _)⟩
    rw [<- hX1, <- hg10]
    have hw1z := HB.o.size
    have HBX := Lh (HB.o.trans (HX1.o.mono hw1z))
    have HOX := Lh (HO.o.below HX1.o)
    clear hX1 hg10 s0 s1 s2 s3 s4 s5 s6 s7 HO HB
    have q0 := (HB1.o.below HBX.o HB1.o.lt).cell (i := 0) rfl
    have q1 := (HB1.o.below HBX.o HB1.o.lt).cell (i := 1) rfl
    have s0 := HT1.o.cell (i := 0) rfl
    have s1 := HT1.o.cell (i := 1) rfl
    have s2 := HT1.o.cell (i := 2) rfl
    have s3 := HT1.o.cell (i := 3) rfl
    obtain ⟨hst, _⟩ := HI.o.node r (List.mem_of_getElem? HR.o)
    have HFi := Lh (final_q l X1 r.h r.S r.bs ((HL.o.keep (HW1.o.trans (HBX.o.mono HW1.o.size))).up (Nat.le_trans HW1.o.size HBX.o.size)) (hst.on HBX.o) HOk.o)
    have htk : Hid (rs.take (i + 1) = rs.take i ++ [r]) := Lh (take_snoc HR.o)
    clear hst
    obtain ⟨fb, hfb⟩ : ∃ fb, fb = finB l ⟨r.S, r.bs.map (·.q)⟩ := ⟨_, rfl⟩
    rw [<- hfb] at HFi
    have HFb : Hid (fb = finB l r.B) := Lh hfb
    clear hfb
    go_wp2_with fail
    refine HFi.o.mono ?_
    rintro e X2 ⟨rfl, hb2⟩
    have HX2 := Lh hb2
    have HBX2 := Lh (HBX.o.trans (hb2.mono HBX.o.size))
    have HOX2 := Lh (HOX.o.below hb2)
    have HT2 := Lh (HT1.o.below hb2 HT1.o.lt)
    clear HFi q0 q1 s0 s1 s2 s3 hb2
    cases fb with
    | false =>
     go_wp2_with fail
     go_roundg (gk - 1)
     case measure => omega
     case rel => exact ⟨i + 1, fs, _, rfl, by go_num, by omega, Lh (by rw [htk.out, finsR_snoc, <- HFs.o, <- HFb.o]; simp), HBX2, HOX2⟩
    | true =>
     have s0 := HT2.o.cell (i := 0) rfl
     have s1 := HT2.o.cell (i := 1) rfl
     obtain ⟨i8, hi8, hi8z, hi8s, hi8b⟩ := info_parts info_fin
     have hwz := HBX2.o.size
     go_wp2_with (at_builtin; go_must (refine wpList_app _ rfl _ _ 34 rfl w1.heap.size 42 i8 (.agg #[.slice none 0 0, .slice none 0 0]) 2 48 Tryz.underlying34 hi8 hi8z hi8s hi8b rfl (by decide) (.slice AN fs.length kN) fs.length (fs.flatMap (FE.cs l.tn l.wn)) rfl (HOX2.o.alloc _) (X2.heap.size + 1) (some ⟨X2.heap.size, 0, none⟩) 1 1 (FE.cs l.tn l.wn (feOf r)) rfl (((Blk.new X2 42 (FE.cs l.tn l.wn (feOf r))).sl rfl).up (by simp)) (by intro v hv; simp [FE.cs] at hv; rcases hv with rfl | rfl <;> rfl) (fs.length + 1) rfl _ rfl _ rfl (by simp only [maxLen]; omega) (by omega) (by simp; omega) ?_; intro A9 k9 X9 hown hg hat hk1 hk2))
     have hB9 : Below w1.heap.size w1 X9 := (HBX2.o.alloc hwz _).grown hg (Nat.le_trans hwz (by simp)) (fun q hq => (HOX2.o.lt q hq).1)
     go_roundg (gk - 1)
     case measure => omega
     case rel =>
      have hfe : fs ++ [feOf r] = finsR l (rs.take (i + 1)) := by rw [htk.out, finsR_snoc, <- HFs.o, <- HFb.o, if_pos rfl]
      have hl9 : (fs ++ [feOf r]).length = fs.length + 1 := by simp
      refine ⟨i + 1, fs ++ [feOf r], .slice A9 (fs.length + 1) k9, rfl, by go_num, by omega, Lh hfe, Lh hB9, Lh ?_⟩
      rw [List.flatMap_append, List.flatMap_cons, List.flatMap_nil, List.append_nil, hl9]
      exact hown
   ·have e1 : ¬ ((i : Int) < rs.length) := by omega
    have HFe : Hid (fs = finsR l rs) := Lh (by rw [HFs.o, List.take_of_length_le (by omega)])
    have HNo : Hid (∀ r ∈ rs, StQ w1 r.h l.tn l.wn r.S r.bs) := Lh fun r hr => (HI.o.node r hr).1
    have HFt : Hid (∀ x ∈ fs, FeAt wr l.tn l.wn x) := Lh fun x hx => by
     rw [HFe.o] at hx
     obtain ⟨r, hr, rfl⟩ := finsR_mem hx
     have h9 := (HNo.o r hr).on HB.o
     exact ⟨h9.w, h9.r⟩
    have HK : Hid (fs.map FE.k = ((rs.map SR.B).filter (finB l)).map finK) := Lh (by rw [HFe.o, finsR_k])
    by_cases h0 : 0 < fs.length
    ·obtain ⟨gF, hgF⟩ : ∃ gF, AN = some ⟨gF, 0, none⟩ := by
      rcases HO.o.2 with ⟨_, h9⟩ | ⟨g, cap, cur, hv, _⟩
      ·omega
      ·injection hv with hA _ _
       exact ⟨g, hA⟩
     subst hgF
     have HSo := Lh (sortF_any l.tn l.wn w1.heap.size gF kN fs wr h0 (by omega) HO.o HFt.o n2 n4)
     have hgF := (HO.o.lt gF rfl)
     have HGF := Lh hgF
     clear hgF
     go_wp2_with fail
     refine HSo.o.mono ?_
     rintro e W2 ⟨rfl, hgb, fs', hpm, hpw, hce⟩
     go_wp2_with fail
     go_ret2
     have hlen : fs'.length = fs.length := hpm.length_eq
     refine ⟨fs', some ⟨gF, 0, none⟩, kN, by rw [hlen]; rfl, ?_, ?_, ?_, ?_, ?_⟩
     ·exact HW1.o.trans ((HB.o.grown hgb HB.o.size (fun q hq => by injection hq with hq; rw [<- hq]; exact HGF.o.1)).mono HW1.o.size)
     ·refine ⟨flat_len (FE.cs l.tn l.wn) 2 (fun _ => rfl) fs', fun _ => ⟨gF, 0, rfl, Nat.lt_of_lt_of_le HGF.o.2 hgb.size, fun j u hu => ?_⟩⟩
      rw [Nat.zero_add]
      exact hce j u hu
     ·intro x hx
      have hx2 : x ∈ fs := hpm.mem_iff.1 hx
      have h9 := HFt.o x hx2
      exact h9.gb hgb (fun e => own_nr HO.o h9.w (by decide) (by rw [e]; rfl)) (fun e => own_nr HO.o h9.r (by decide) (by rw [e]; rfl))
     ·rw [<- HNs.o, <- HK.o]
      exact hpm.map FE.k
     ·exact List.pairwise_map.2 (hpw.imp fun h9 => by omega)
    ·have hnil : fs = [] := List.eq_nil_of_length_eq_zero (by omega)
     have HSo := Lh (sortF_nil AN kN)
     subst hnil
     go_wp2_with fail
     refine (HSo.o _).mono ?_
     rintro e W2 ⟨rfl, rfl⟩
     go_wp2_with fail
     go_ret2
     refine ⟨[], AN, kN, rfl, HW1.o.trans (HB.o.mono HW1.o.size), ⟨rfl, fun h9 => absurd h9 (by simp)⟩, fun x hx => (by cases hx), ?_, List.Pairwise.nil⟩
     rw [<- HNs.o, <- HK.o]
end Go.Proofs.YtgjdgapfnfhklaaGreat
