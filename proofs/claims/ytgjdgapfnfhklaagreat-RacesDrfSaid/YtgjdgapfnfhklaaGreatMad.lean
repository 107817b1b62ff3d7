/-
races.made.
-/
import Derived.Test.YtgjdgapfnfhklaaGreatZ25
import Derived.Test.YtgjdgapfnfhklaaGreatZ0
import Derived.Test.YtgjdgapfnfhklaaGreatZ11
set_option linter.unusedSimpArgs false
set_option linter.unusedVariables false
set_option maxRecDepth 100000
set_option maxHeartbeats 8000000
namespace Go.Proofs.YtgjdgapfnfhklaaGreat
open Go.RowKit
theorem size_lev : (Tryz.prog.info? 109).map (·.size) = some 4 := by kernel_rfl
theorem size_lin : (Tryz.prog.info? 68).map (·.size) = some 7 := by kernel_rfl
theorem lev_one (a b c : Int) (d : Bool) : (#[.int .i64 a, .int .i64 b, .int .i64 c, .bool d] : Array Value).all (·.oneCell') = true := by simp [Value.oneCell']
theorem lin_one (a b c d e f g : Int) : (#[.int .i64 a, .int .i64 b, .int .i64 c, .int .i64 d, .int .i64 e, .int .i64 f, .int .i64 g] : Array Value).all (·.oneCell') = true := by simp [Value.oneCell']
def evO (o : Option Ev) : Value := match o with | some e => evV e | none => .agg #[.int .i64 0, .int .i64 0, .int .i64 0, .bool false]
def MadR (l : Lit) (S : LS) (u : Tn) (w : World) (e : Ending) (w' : World) : Prop := ∃ h', e = .returned (.tuple #[stV h' l.tn l.wn, evO (evOf l S u), .bool (evOf l S u).isSome]) /\ NewS w.heap.size h' /\ StAt w' h' l.tn l.wn (turnS l S u) /\ Below w.heap.size w w'
theorem NewS.le {B B' : Nat} {h : SH} (hn : NewS B h) (hB : B' <= B) : NewS B' h := ⟨Nat.le_trans hB hn.1, Nat.le_trans hB hn.2.1, Nat.le_trans hB hn.2.2.1, Nat.le_trans hB hn.2.2.2⟩
theorem StAt.row {W : World} {h : SH} {n nw g : Nat} {S : LS} {cs : Array Value} (s : StAt W h n nw S) {B : Nat} (hn : NewS B h) (hg : g < B) : StAt (W.setRow g cs) h n nw S := by
 obtain ⟨m1, m2, m3, m4⟩ := hn
 exact ⟨s.w.kept (rowK (by omega)), s.r.kept (rowK (by omega)), s.p.kept (rowK (by omega)), s.b.kept (rowK (by omega)), s.ne⟩
theorem mad_end {l : Lit} {S : LS} {u : Tn} {w w0 W : World} {h' : SH} {cs cs' : Array Value} (hw : Below w.heap.size w W) (hn : NewS w0.heap.size h') (hs : StAt W h' l.tn l.wn (turnS l S u)) (hz : w.heap.size + 1 + 1 + 1 + 1 < w0.heap.size) {v : Value} (hv : v = evO (evOf l S u)) {b : Bool} (hb : b = (evOf l S u).isSome) :
  MadR l S u w (.returned (.tuple #[stV h' l.tn l.wn, v, .bool b])) ((W.setRow (w.heap.size + 1 + 1 + 1) cs).setRow (w.heap.size + 1 + 1 + 1 + 1) cs') := by
 subst hv hb
 exact ⟨h', rfl, hn.le (by omega), (hs.row hn (by omega)).row hn hz, rowB (rowB hw (by omega)) (by omega)⟩
theorem made_no (l : Lit) (w : World) (h : SH) (S : LS) (u : Tn) (hl : LitAt w w.heap.size l) (hs : StAt w h l.tn l.wn S) (hg : GoodS l S) (hok : okLit l = true) (hp : pickS l S u = none) :
  Calls Tryz.prog 26 #[litV l, stV h l.tn l.wn, tnV u] w (MadR l S u w) := by
 have HEv := Lh (show evOf l S u = none by unfold evOf; rw [hp])
 obtain ⟨n1, n2, n3, n4⟩ := okLit_num hok
 have HL := Lh hl
 have HS := Lh hs
 have HG := Lh hg
 have HOk := Lh hok
 have HP := Lh hp
 obtain ⟨tb, to', hta, htb, _⟩ := hl.heads n1
 clear hl hs hg hok hp
 obtain ⟨wA, wn, wk, ws, tA, tn, tk, th⟩ := l
 have hta' : tA = some ⟨tb, to', none⟩ := hta
 subst hta'
 clear hta
 dsimp only at n1 n2 n3 n4
 obtain ⟨ut, uo, ua⟩ := u
 obtain ⟨w0, hw0⟩ : ∃ w0 : World, w0 = (((((w.alloc (.cells #[.slice wA wn wk, .slice (some ⟨tb, to', none⟩) tn tk] 25)).alloc (.cells #[.slice (some ⟨h.gw, 0, none⟩) wn h.kw, .slice (some ⟨h.gr, 0, none⟩) tn h.kr, .slice (some ⟨h.gp, 0, none⟩) tn h.kp, .slice (some ⟨h.gb, 0, none⟩) tn h.kb] 77)).alloc (.cells #[.int .i64 ut, .bool uo, .int .i64 ua] 91)).alloc (.cells #[.slice none 0 0, .slice none 0 0, .slice none 0 0, .slice none 0 0] 77)).alloc (.cells #[.int .i64 0, .int .i64 0, .int .i64 0, .bool false] 109)) := ⟨_, rfl⟩
 have HL0 : Hid (Blk w0 (w.heap.size) 25 [.slice wA wn wk, .slice (some ⟨tb, to', none⟩) tn tk]) := by rw [hw0]; exact alc w [_, _, _, _, _] 0 rfl
 have HX0 : Hid (Blk w0 (w.heap.size + 1) 77 (stL h tn wn)) := by rw [hw0]; exact alc w [_, _, _, _, _] 1 rfl
 have HU0 : Hid (Blk w0 (w.heap.size + 1 + 1) 91 [.int .i64 ut, .bool uo, .int .i64 ua]) := by rw [hw0]; exact alc w [_, _, _, _, _] 2 rfl
 have HZ0 : Hid (Blk w0 (w.heap.size + 1 + 1 + 1) 77 [.slice none 0 0, .slice none 0 0, .slice none 0 0, .slice none 0 0]) := by rw [hw0]; exact alc w [_, _, _, _, _] 3 rfl
 have HE0 : Hid (Blk w0 (w.heap.size + 1 + 1 + 1 + 1) 109 [.int .i64 0, .int .i64 0, .int .i64 0, .bool false]) := by rw [hw0]; exact alc w [_, _, _, _, _] 4 rfl
 have HW0 : Hid (Below w.heap.size w w0) := by rw [hw0]; exact (((((Below.refl _ _).alloc (Nat.le_refl _) _).alloc (by simp) _).alloc (by simp; omega) _).alloc (by simp; omega) _).alloc (by simp; omega) _
 have HWe := Lh hw0
 have hz0 : w.heap.size + 1 + 1 + 1 + 1 < w0.heap.size := HE0.o.lt
 clear hw0
 go_enter Tryz.func26, Tryz.ntmps26
 go_upto_region 1 with fail
 rw [<- HWe.o]
 clear HWe
 have q0 := HL0.o.cell (i := 0) rfl
 have q1 := HL0.o.cell (i := 1) rfl
 have s0 := HX0.o.cell (i := 0) rfl
 have s1 := HX0.o.cell (i := 1) rfl
 have s2 := HX0.o.cell (i := 2) rfl
 have s3 := HX0.o.cell (i := 3) rfl
 have u0 := HU0.o.cell (i := 0) rfl
 have u1 := HU0.o.cell (i := 1) rfl
 have u2 := HU0.o.cell (i := 2) rfl
 go_wp2_with fail
 refine (next_any ⟨wA, wn, wk, ws, some ⟨tb, to', none⟩, tn, tk, th⟩ w0 h S ⟨ut, uo, ua⟩ ((HL.o.keep HW0.o).up HW0.o.size) (HS.o.on HW0.o) HG.o HOk.o).mono ?_
 rintro e w1 ⟨h1, rfl, hnew, hst1, hb1⟩
 rw [HP.o]
 have HNew := Lh hnew
 have HL1 := Lh (HL0.o.below hb1 HL0.o.lt)
 have HX1 := Lh (HX0.o.below hb1 HX0.o.lt)
 have HU1 := Lh (HU0.o.below hb1 HU0.o.lt)
 have HZ1 := Lh (HZ0.o.below hb1 HZ0.o.lt)
 have HE1 := Lh (HE0.o.below hb1 HE0.o.lt)
 have HW1 := Lh (HW0.o.trans (hb1.mono HW0.o.size))
 have HSt1 := Lh hst1
 have hz1 := hb1.size
 have hb01 := Lh hb1
 clear hnew hst1 hb1 HL0 HX0 HU0 HZ0 HE0 q0 q1 s0 s1 s2 s3 u0 u1 u2
 go_upto_region 2 with fail
 obtain ⟨gn, hgn⟩ : ∃ gn, gn = w1.heap.size := ⟨_, rfl⟩
 obtain ⟨w2, hw2, HN2, hb2⟩ : ∃ Z9, Z9 = w1.alloc (.cells #[.slice (some ⟨h1.gw, 0, none⟩) wn h1.kw, .slice (some ⟨h1.gr, 0, none⟩) tn h1.kr, .slice (some ⟨h1.gp, 0, none⟩) tn h1.kp, .slice (some ⟨h1.gb, 0, none⟩) tn h1.kb] 77) /\ Hid (Blk Z9 gn 77 (stL h1 tn wn)) /\ Below w1.heap.size w1 Z9 := ⟨_, rfl, by rw [hgn]; exact Blk.new _ _ _, (Below.refl _ _).alloc (Nat.le_refl _) _⟩
 rw [<- hw2, <- hgn]
 have HL2 := Lh (HL1.o.below hb2 HL1.o.lt)
 have HX2 := Lh (HX1.o.below hb2 HX1.o.lt)
 have HU2 := Lh (HU1.o.below hb2 HU1.o.lt)
 have HZ2 := Lh (HZ1.o.below hb2 HZ1.o.lt)
 have HE2 := Lh (HE1.o.below hb2 HE1.o.lt)
 have HW2 := Lh (HW1.o.trans (hb2.mono HW1.o.size))
 have HSt2 := Lh (HSt1.o.on hb2)
 have hgnl : w.heap.size + 1 + 1 + 1 + 1 < gn := by rw [hgn]; exact HE1.o.lt
 have hz2 := hb2.size
 clear hb2 hw2 HL1 HX1 HU1 HZ1 HE1 hgn HSt1
 have u1 := HU2.o.cell (i := 1) rfl
 go_upto_region 3 with fail
 refine wp_region_lit ?_
 refine wpList_load_row rfl _ _ rfl gn rfl 77 _ (0, 0) _ HN2.o Tryz.underlying77 rfl size_lst ?_
 have HR6 := Lh (setRow_heap w2 (w.heap.size + 1 + 1 + 1) _ #[.slice (some ⟨h1.gw, 0, none⟩) wn h1.kw, .slice (some ⟨h1.gr, 0, none⟩) tn h1.kr, .slice (some ⟨h1.gp, 0, none⟩) tn h1.kp, .slice (some ⟨h1.gb, 0, none⟩) tn h1.kb] _ _ HZ2.o)
 have HE7 : Hid (Blk (w2.setRow (w.heap.size + 1 + 1 + 1) #[.slice (some ⟨h1.gw, 0, none⟩) wn h1.kw, .slice (some ⟨h1.gr, 0, none⟩) tn h1.kr, .slice (some ⟨h1.gp, 0, none⟩) tn h1.kp, .slice (some ⟨h1.gb, 0, none⟩) tn h1.kb]) (w.heap.size + 1 + 1 + 1 + 1) 109 [.int .i64 0, .int .i64 0, .int .i64 0, .bool false]) := HE2.o.kept (rowK (by omega))
 go_wp2_with (first
  | refine wpList_store_row rfl _ _ _ rfl (w.heap.size + 1 + 1 + 1) #[.slice (some ⟨h1.gw, 0, none⟩) wn h1.kw, .slice (some ⟨h1.gr, 0, none⟩) tn h1.kr, .slice (some ⟨h1.gp, 0, none⟩) tn h1.kp, .slice (some ⟨h1.gb, 0, none⟩) tn h1.kb] rfl rfl 77 _ HZ2.o size_lst rfl (lst_one _ _ _ _ _ _ _ _ _ _ _ _) ?_
  | refine wpList_store_row rfl _ _ _ rfl (w.heap.size + 1 + 1 + 1 + 1) #[.int .i64 0, .int .i64 0, .int .i64 0, .bool false] rfl rfl 109 _ HE7.o size_lev rfl (lev_one _ _ _ _) ?_)
 (try simp only [Act.put])
 go_wp2_with fail
 have HR7 := Lh (setRow_heap (w2.setRow (w.heap.size + 1 + 1 + 1) #[.slice (some ⟨h1.gw, 0, none⟩) wn h1.kw, .slice (some ⟨h1.gr, 0, none⟩) tn h1.kr, .slice (some ⟨h1.gp, 0, none⟩) tn h1.kp, .slice (some ⟨h1.gb, 0, none⟩) tn h1.kb]) (w.heap.size + 1 + 1 + 1 + 1) _ #[.int .i64 0, .int .i64 0, .int .i64 0, .bool false] _ _ HE7.o)
 have HR8 : Hid (((w2.setRow (w.heap.size + 1 + 1 + 1) #[.slice (some ⟨h1.gw, 0, none⟩) wn h1.kw, .slice (some ⟨h1.gr, 0, none⟩) tn h1.kr, .slice (some ⟨h1.gp, 0, none⟩) tn h1.kp, .slice (some ⟨h1.gb, 0, none⟩) tn h1.kb]).setRow (w.heap.size + 1 + 1 + 1 + 1) #[.int .i64 0, .int .i64 0, .int .i64 0, .bool false]).heap[w.heap.size + 1 + 1 + 1]? = some (.cells #[.slice (some ⟨h1.gw, 0, none⟩) wn h1.kw, .slice (some ⟨h1.gr, 0, none⟩) tn h1.kr, .slice (some ⟨h1.gp, 0, none⟩) tn h1.kp, .slice (some ⟨h1.gb, 0, none⟩) tn h1.kb] 77 (0, 0))) := (rowK (by omega)).trans HR6.o
 refine bodyPost_ret_by (results_c2t1 rfl _ _ (w.heap.size + 1 + 1 + 1) (w.heap.size + 1 + 1 + 1 + 1) 77 109 _ _ (0, 0) (0, 0) _ _ rfl HR8.o Tryz.underlying77 rfl size_lst rfl HR7.o Tryz.underlying109 rfl size_lev) rfl ?_
 exact mad_end (l := ⟨wA, wn, wk, ws, some ⟨tb, to', none⟩, tn, tk, th⟩) HW2.o HNew.o HSt2.o hz0 (by rw [HEv.o]; rfl) (by rw [HEv.o]; rfl)
theorem StAt.farE {W : World} {h : SH} {n nw g i : Nat} {S : LS} {cs : List Value} {v : Value} (s : StAt W h n nw S) (hb : Blk W g 109 cs) : StAt (W.setCell ⟨g, i, none⟩ v) h n nw S :=
 ⟨s.w.far (Ne.symm (s.w.ne hb (by decide))) _, s.r.far (Ne.symm (s.r.ne hb (by decide))) _, s.p.far (Ne.symm (s.p.ne hb (by decide))) _, s.b.far (Ne.symm (s.b.ne hb (by decide))) _, s.ne⟩
theorem made_yes (l : Lit) (w : World) (h : SH) (S : LS) (u : Tn) (x9 : Ins) (hl : LitAt w w.heap.size l) (hs : StAt w h l.tn l.wn S) (hg : GoodS l S) (hok : okLit l = true) (hp : pickS l S u = some x9) :
  Calls Tryz.prog 26 #[litV l, stV h l.tn l.wn, tnV u] w (MadR l S u w) := by
 have HEv := Lh (show evOf l S u = eventS (turnS l S u) u.t.toNat x9 by unfold evOf; rw [hp])
 obtain ⟨n1, n2, n3, n4⟩ := okLit_num hok
 have HL := Lh hl
 have HS := Lh hs
 have HG := Lh hg
 have HOk := Lh hok
 have HP := Lh hp
 obtain ⟨tb, to', hta, htb, _⟩ := hl.heads n1
 clear hl hs hg hok hp
 obtain ⟨wA, wn, wk, ws, tA, tn, tk, th⟩ := l
 have hta' : tA = some ⟨tb, to', none⟩ := hta
 subst hta'
 clear hta
 dsimp only at n1 n2 n3 n4
 obtain ⟨ut, uo, ua⟩ := u
 have hr : (0 <= ut /\ ut < (tn : Int) /\ uo = false) := by
  have h9 := HP.o
  unfold pickS at h9
  dsimp only at h9
  by_cases hc : 0 <= ut /\ ut < (tn : Int) /\ uo = false
  ·exact hc
  ·rw [if_neg hc] at h9
   cases h9
 obtain ⟨hr1, hr2, rfl⟩ := hr
 obtain ⟨t, rfl⟩ : ∃ t : Nat, ut = t := ⟨ut.toNat, by omega⟩
 have hlt : t < tn := by omega
 have e0 : (0 : Int) <= t := by omega
 have e1 : (t : Int) < tn := by omega
 obtain ⟨w0, hw0⟩ : ∃ w0 : World, w0 = (((((w.alloc (.cells #[.slice wA wn wk, .slice (some ⟨tb, to', none⟩) tn tk] 25)).alloc (.cells #[.slice (some ⟨h.gw, 0, none⟩) wn h.kw, .slice (some ⟨h.gr, 0, none⟩) tn h.kr, .slice (some ⟨h.gp, 0, none⟩) tn h.kp, .slice (some ⟨h.gb, 0, none⟩) tn h.kb] 77)).alloc (.cells #[.int .i64 t, .bool false, .int .i64 ua] 91)).alloc (.cells #[.slice none 0 0, .slice none 0 0, .slice none 0 0, .slice none 0 0] 77)).alloc (.cells #[.int .i64 0, .int .i64 0, .int .i64 0, .bool false] 109)) := ⟨_, rfl⟩
 have HL0 : Hid (Blk w0 (w.heap.size) 25 [.slice wA wn wk, .slice (some ⟨tb, to', none⟩) tn tk]) := by rw [hw0]; exact alc w [_, _, _, _, _] 0 rfl
 have HX0 : Hid (Blk w0 (w.heap.size + 1) 77 (stL h tn wn)) := by rw [hw0]; exact alc w [_, _, _, _, _] 1 rfl
 have HU0 : Hid (Blk w0 (w.heap.size + 1 + 1) 91 [.int .i64 t, .bool false, .int .i64 ua]) := by rw [hw0]; exact alc w [_, _, _, _, _] 2 rfl
 have HZ0 : Hid (Blk w0 (w.heap.size + 1 + 1 + 1) 77 [.slice none 0 0, .slice none 0 0, .slice none 0 0, .slice none 0 0]) := by rw [hw0]; exact alc w [_, _, _, _, _] 3 rfl
 have HE0 : Hid (Blk w0 (w.heap.size + 1 + 1 + 1 + 1) 109 [.int .i64 0, .int .i64 0, .int .i64 0, .bool false]) := by rw [hw0]; exact alc w [_, _, _, _, _] 4 rfl
 have HW0 : Hid (Below w.heap.size w w0) := by rw [hw0]; exact (((((Below.refl _ _).alloc (Nat.le_refl _) _).alloc (by simp) _).alloc (by simp; omega) _).alloc (by simp; omega) _).alloc (by simp; omega) _
 have HWe := Lh hw0
 have hz0 : w.heap.size + 1 + 1 + 1 + 1 < w0.heap.size := HE0.o.lt
 clear hw0
 go_enter Tryz.func26, Tryz.ntmps26
 go_upto_region 1 with fail
 rw [<- HWe.o]
 clear HWe
 have q0 := HL0.o.cell (i := 0) rfl
 have q1 := HL0.o.cell (i := 1) rfl
 have s0 := HX0.o.cell (i := 0) rfl
 have s1 := HX0.o.cell (i := 1) rfl
 have s2 := HX0.o.cell (i := 2) rfl
 have s3 := HX0.o.cell (i := 3) rfl
 have u0 := HU0.o.cell (i := 0) rfl
 have u1 := HU0.o.cell (i := 1) rfl
 have u2 := HU0.o.cell (i := 2) rfl
 go_wp2_with fail
 refine (next_any ⟨wA, wn, wk, ws, some ⟨tb, to', none⟩, tn, tk, th⟩ w0 h S ⟨t, false, ua⟩ ((HL.o.keep HW0.o).up HW0.o.size) (HS.o.on HW0.o) HG.o HOk.o).mono ?_
 rintro e w1 ⟨h1, rfl, hnew, hst1, hb1⟩
 rw [HP.o]
 have HNew := Lh hnew
 have HL1 := Lh (HL0.o.below hb1 HL0.o.lt)
 have HX1 := Lh (HX0.o.below hb1 HX0.o.lt)
 have HU1 := Lh (HU0.o.below hb1 HU0.o.lt)
 have HZ1 := Lh (HZ0.o.below hb1 HZ0.o.lt)
 have HE1 := Lh (HE0.o.below hb1 HE0.o.lt)
 have HW1 := Lh (HW0.o.trans (hb1.mono HW0.o.size))
 have HSt1 := Lh hst1
 have hz1 := hb1.size
 have hb01 := Lh hb1
 clear hnew hst1 hb1 HL0 HX0 HU0 HZ0 HE0 q0 q1 s0 s1 s2 s3 u0 u1 u2
 go_upto_region 2 with fail
 obtain ⟨gn, hgn⟩ : ∃ gn, gn = w1.heap.size := ⟨_, rfl⟩
 obtain ⟨w2, hw2, HN2, hb2⟩ : ∃ Z9, Z9 = w1.alloc (.cells #[.slice (some ⟨h1.gw, 0, none⟩) wn h1.kw, .slice (some ⟨h1.gr, 0, none⟩) tn h1.kr, .slice (some ⟨h1.gp, 0, none⟩) tn h1.kp, .slice (some ⟨h1.gb, 0, none⟩) tn h1.kb] 77) /\ Hid (Blk Z9 gn 77 (stL h1 tn wn)) /\ Below w1.heap.size w1 Z9 := ⟨_, rfl, by rw [hgn]; exact Blk.new _ _ _, (Below.refl _ _).alloc (Nat.le_refl _) _⟩
 rw [<- hw2, <- hgn]
 have HL2 := Lh (HL1.o.below hb2 HL1.o.lt)
 have HX2 := Lh (HX1.o.below hb2 HX1.o.lt)
 have HU2 := Lh (HU1.o.below hb2 HU1.o.lt)
 have HZ2 := Lh (HZ1.o.below hb2 HZ1.o.lt)
 have HE2 := Lh (HE1.o.below hb2 HE1.o.lt)
 have HW2 := Lh (HW1.o.trans (hb2.mono HW1.o.size))
 have HSt2 := Lh (HSt1.o.on hb2)
 have hgnl : w.heap.size + 1 + 1 + 1 + 1 < gn := by rw [hgn]; exact HE1.o.lt
 have hz2 := hb2.size
 clear hb2 hw2 HL1 HX1 HU1 HZ1 HE1 hgn HSt1
 have u1 := HU2.o.cell (i := 1) rfl
 obtain ⟨x, hx⟩ := at_lt (show t < th.length by have := HL.o.tlen; dsimp only at this; omega)
 have hL := HL.o.keep HW2.o
 obtain ⟨tb2, to2, hta2, htb2, htc⟩ := hL.head hx
 injection hta2 with hta2
 injection hta2 with e1' e2'
 subst e1' e2'
 have hcl := hL.clen (List.mem_of_getElem? hx)
 have hco := (hL.code x (List.mem_of_getElem? hx)).2.1
 have hn1 := hco.1
 have hn2 := hco.2
 unfold maxLen at hn2
 have hp9 : x.2[S.p t]? = some x9 := by
  have h9 := HP.o
  unfold pickS at h9
  dsimp only at h9
  rwa [if_pos ⟨hr1, hr2, rfl⟩, Int.toNat_natCast, codeOf_at hx] at h9
 have hlt2 : S.p t < x.1.2.1 := by
  have := (List.getElem?_eq_some_iff.1 hp9).1
  omega
 have hok9 := (okLit_code HOk.o hx).2 x9 (List.mem_of_getElem? hp9)
 obtain ⟨cb, co, hca, hcb, hc⟩ := ins_cell (hL.code _ (List.mem_of_getElem? hx)).1 hp9
 have hpt := (HS.o.on HW2.o).place (LS.p_at (S := S) (t := t) (by rw [(HS.o).plen]; exact hlt))
 have hrl := HSt2.o.rlen
 clear hx hco hL hcl hp9
 obtain ⟨⟨xA, xn, xk⟩, code⟩ := x
 dsimp only at hn1 hn2 htc hlt2 hca
 subst hca
 obtain ⟨kd, rg, ad, vl, sr, od, ct⟩ := x9
 have c0 := hc.c0
 have c1 := hc.c1
 have c2 := hc.c2
 have c3 := hc.c3
 have c4 := hc.c4
 have c5 := hc.c5
 have c6 := hc.c6
 dsimp only at c0 c1 c2 c3 c4 c5 c6
 clear hc
 have f0 : (0 : Int) <= S.p t := by omega
 have f1 : (S.p t : Int) < xn := by omega
 have HOk9 := Lh hok9
 clear hok9
 have q1 := HL2.o.cell (i := 1) rfl
 have u0 := HU2.o.cell (i := 0) rfl
 have s2 := HX2.o.cell (i := 2) rfl
 have hSc : w2.cell? ⟨w.heap.size, 1, none⟩ = some (.slice (some ⟨tb, to', none⟩) tn tk) /\ w2.cell? ⟨w.heap.size + 1 + 1, 0, none⟩ = some (.int .i64 t) /\ w2.cell? ⟨tb, to' + t, none⟩ = some (.slice (some ⟨cb, co, none⟩) xn xk) /\ w2.cell? ⟨w.heap.size + 1, 2, none⟩ = some (.slice (some ⟨h.gp, 0, none⟩) tn h.kp) /\ w2.cell? ⟨h.gp, t, none⟩ = some (.int .i64 (S.p t)) /\ w2.cell? ⟨cb, co + S.p t * 7, none⟩ = some (.int .i64 kd) /\ w2.cell? ⟨cb, co + S.p t * 7 + 1, none⟩ = some (.int .i64 rg) /\ w2.cell? ⟨cb, co + S.p t * 7 + 2, none⟩ = some (.int .i64 ad) /\ w2.cell? ⟨cb, co + S.p t * 7 + 3, none⟩ = some (.int .i64 vl) /\ w2.cell? ⟨cb, co + S.p t * 7 + 4, none⟩ = some (.int .i64 sr) /\ w2.cell? ⟨cb, co + S.p t * 7 + 5, none⟩ = some (.int .i64 od) /\ w2.cell? ⟨cb, co + S.p t * 7 + 6, none⟩ = some (.int .i64 ct) := ⟨q1, u0, htc, s2, hpt, c0, c1, c2, c3, c4, c5, c6⟩
 have HSo : Hid (∀ W, Below w2.heap.size w2 W -> W.cell? ⟨w.heap.size, 1, none⟩ = some (.slice (some ⟨tb, to', none⟩) tn tk) /\ W.cell? ⟨w.heap.size + 1 + 1, 0, none⟩ = some (.int .i64 t) /\ W.cell? ⟨tb, to' + t, none⟩ = some (.slice (some ⟨cb, co, none⟩) xn xk) /\ W.cell? ⟨w.heap.size + 1, 2, none⟩ = some (.slice (some ⟨h.gp, 0, none⟩) tn h.kp) /\ W.cell? ⟨h.gp, t, none⟩ = some (.int .i64 (S.p t)) /\ W.cell? ⟨cb, co + S.p t * 7, none⟩ = some (.int .i64 kd) /\ W.cell? ⟨cb, co + S.p t * 7 + 1, none⟩ = some (.int .i64 rg) /\ W.cell? ⟨cb, co + S.p t * 7 + 2, none⟩ = some (.int .i64 ad) /\ W.cell? ⟨cb, co + S.p t * 7 + 3, none⟩ = some (.int .i64 vl) /\ W.cell? ⟨cb, co + S.p t * 7 + 4, none⟩ = some (.int .i64 sr) /\ W.cell? ⟨cb, co + S.p t * 7 + 5, none⟩ = some (.int .i64 od) /\ W.cell? ⟨cb, co + S.p t * 7 + 6, none⟩ = some (.int .i64 ct)) := fun W hW => by
  obtain ⟨a0, a1, a2, a3, a4, a5, a6, a7, a8, a9, a10, a11⟩ := hSc
  have k : ∀ (a : Addr) (v : Value), w2.cell? a = some v -> W.cell? a = some v := fun a v hv => (hW.cell (World.block_lt_of_cell? w2 a hv)).trans hv
  exact ⟨k _ _ a0, k _ _ a1, k _ _ a2, k _ _ a3, k _ _ a4, k _ _ a5, k _ _ a6, k _ _ a7, k _ _ a8, k _ _ a9, k _ _ a10, k _ _ a11⟩
 clear hSc q1 u0 s2 htc hpt c0 c1 c2 c3 c4 c5 c6
 go_upto_region 4 with fail
 clear u1
 refine wp_region_held_drew (S := fun W => W.cell? ⟨w.heap.size, 1, none⟩ = some (.slice (some ⟨tb, to', none⟩) tn tk) /\ W.cell? ⟨w.heap.size + 1 + 1, 0, none⟩ = some (.int .i64 t) /\ W.cell? ⟨tb, to' + t, none⟩ = some (.slice (some ⟨cb, co, none⟩) xn xk) /\ W.cell? ⟨w.heap.size + 1, 2, none⟩ = some (.slice (some ⟨h.gp, 0, none⟩) tn h.kp) /\ W.cell? ⟨h.gp, t, none⟩ = some (.int .i64 (S.p t)) /\ W.cell? ⟨cb, co + S.p t * 7, none⟩ = some (.int .i64 kd) /\ W.cell? ⟨cb, co + S.p t * 7 + 1, none⟩ = some (.int .i64 rg) /\ W.cell? ⟨cb, co + S.p t * 7 + 2, none⟩ = some (.int .i64 ad) /\ W.cell? ⟨cb, co + S.p t * 7 + 3, none⟩ = some (.int .i64 vl) /\ W.cell? ⟨cb, co + S.p t * 7 + 4, none⟩ = some (.int .i64 sr) /\ W.cell? ⟨cb, co + S.p t * 7 + 5, none⟩ = some (.int .i64 od) /\ W.cell? ⟨cb, co + S.p t * 7 + 6, none⟩ = some (.int .i64 ct)) (by kernel_rfl) (HSo.o _ (Below.refl _ _).drew) (fun hS => ?_)
 iterate 14 (refine tkF 0 (v := ?_) ?_ ?_; rotate_left; · (intro W hSw; (try dsimp only at hSw); go_simp; try with_reducible rfl); try simp only [Act.put, List.setIfInBounds_toArray, List.set_cons_zero, List.set_cons_succ])
 obtain ⟨V, hV9, HVb, hVz⟩ : ∃ Z9, Z9 = w2.drew /\ Hid (Below w2.heap.size w2 Z9) /\ Hid (Z9.heap.size = w2.heap.size) := ⟨_, rfl, (Below.refl _ _).drew, rfl⟩
 rw [<- hV9]
 clear hV9
 refine rd 14 fun K1 hK1 => ?_
 go_simp
 refine hK1.out _ _ (HSo.o _ (HVb.o.alloc HVb.o.size _)) (fun _ => ?_)
 refine rd 15 fun K2 hK2 => ?_
 have hx4 : Blk (V.alloc (.cells #[.int .i64 0, .int .i64 0, .int .i64 0, .int .i64 0, .int .i64 0, .int .i64 0, .int .i64 0] 68)) V.heap.size 68 [.int .i64 0, .int .i64 0, .int .i64 0, .int .i64 0, .int .i64 0, .int .i64 0, .int .i64 0] := Blk.new V 68 [.int .i64 0, .int .i64 0, .int .i64 0, .int .i64 0, .int .i64 0, .int .i64 0, .int .i64 0]
 refine wp_store_row _ _ _ rfl V.heap.size #[.int .i64 kd, .int .i64 rg, .int .i64 ad, .int .i64 vl, .int .i64 sr, .int .i64 od, .int .i64 ct] rfl rfl 68 _ hx4 size_lin rfl (lin_one _ _ _ _ _ _ _) ?_
 have hb4 : Below w2.heap.size w2 ((V.alloc (.cells #[.int .i64 0, .int .i64 0, .int .i64 0, .int .i64 0, .int .i64 0, .int .i64 0, .int .i64 0] 68)).setRow V.heap.size #[.int .i64 kd, .int .i64 rg, .int .i64 ad, .int .i64 vl, .int .i64 sr, .int .i64 od, .int .i64 ct]) := rowB (HVb.o.alloc HVb.o.size _) HVb.o.size
 refine hK2.out _ _ (HSo.o _ hb4) (fun _ => ?_)
 refine wpAnyH_done (by kernel_rfl) ?_ _
 obtain ⟨gi, hgi⟩ : ∃ gi, gi = V.heap.size := ⟨_, rfl⟩
 obtain ⟨w4, hw4, HI4, hb4'⟩ : ∃ Z9, Z9 = (V.alloc (.cells #[.int .i64 0, .int .i64 0, .int .i64 0, .int .i64 0, .int .i64 0, .int .i64 0, .int .i64 0] 68)).setRow V.heap.size #[.int .i64 kd, .int .i64 rg, .int .i64 ad, .int .i64 vl, .int .i64 sr, .int .i64 od, .int .i64 ct] /\ Hid (Blk Z9 gi 68 [.int .i64 kd, .int .i64 rg, .int .i64 ad, .int .i64 vl, .int .i64 sr, .int .i64 od, .int .i64 ct]) /\ Below w2.heap.size w2 Z9 := ⟨_, rfl, by rw [hgi]; exact setRow_heap _ _ _ #[.int .i64 kd, .int .i64 rg, .int .i64 ad, .int .i64 vl, .int .i64 sr, .int .i64 od, .int .i64 ct] _ _ hx4, hb4⟩
 rw [<- hw4, <- hgi]
 have hgi2 := HVb.o.size
 clear hw4 hx4 hb4 hS HSo
 have HU4 := Lh (HU2.o.below hb4' HU2.o.lt)
 have HN4 := Lh (HN2.o.below hb4' HN2.o.lt)
 have HZ4 := Lh (HZ2.o.below hb4' HZ2.o.lt)
 have HE4 := Lh (HE2.o.below hb4' HE2.o.lt)
 have HW4 := Lh (HW2.o.trans (hb4'.mono HW2.o.size))
 have HSt4 := Lh (HSt2.o.on hb4')
 have hgil : w.heap.size + 1 + 1 + 1 + 1 < gi := by have := HE2.o.lt; omega
 clear hgi hgi2 HVb hVz
 clear hb4' HL2 HX2 HU2 HN2 HZ2 HE2 HW2 HSt2
 have j0 := HI4.o.cell (i := 0) rfl
 have j2 := HI4.o.cell (i := 2) rfl
 have u0 := HU4.o.cell (i := 0) rfl
 go_upto_region 6 with fail
 obtain ⟨ge, hge⟩ : ∃ ge, ge = w4.heap.size := ⟨_, rfl⟩
 obtain ⟨w5, hw5, HV5, hb5⟩ : ∃ Z9, Z9 = w4.alloc (.cells #[.int .i64 t, .int .i64 kd, .int .i64 ad, .bool false] 109) /\ Hid (Blk Z9 ge 109 [.int .i64 t, .int .i64 kd, .int .i64 ad, .bool false]) /\ Below w4.heap.size w4 Z9 := ⟨_, rfl, by rw [hge]; exact Blk.new _ _ _, (Below.refl _ _).alloc (Nat.le_refl _) _⟩
 rw [<- hw5, <- hge]
 have HU5 := Lh (HU4.o.below hb5 HU4.o.lt)
 have HN5 := Lh (HN4.o.below hb5 HN4.o.lt)
 have HZ5 := Lh (HZ4.o.below hb5 HZ4.o.lt)
 have HE5 := Lh (HE4.o.below hb5 HE4.o.lt)
 have HI5 := Lh (HI4.o.below hb5 HI4.o.lt)
 have HW5 := Lh (HW4.o.trans (hb5.mono HW4.o.size))
 have HSt5 := Lh (HSt4.o.on hb5)
 have hgel : gi < ge := by rw [hge]; exact HI4.o.lt
 have hgn5 : gn < ge := by rw [hge]; exact HN4.o.lt
 clear hb5 hw5 hge j0 j2 u0 HU4 HN4 HZ4 HE4 HI4 HW4 HSt4
 have hge8 := HV5.o.lt
 have i0 := HI5.o.cell (i := 0) rfl
 have hkk : kd = 1 ∨ kd = 2 ∨ kd = 3 ∨ (kd ≠ 1 /\ kd ≠ 2 /\ kd ≠ 3) := by omega
 rcases hkk with hk | hk | hk | ⟨k1, k2, k3⟩
 case' inl =>
  obtain ⟨adn, ha, _⟩ : ∃ adn : Nat, ad = adn /\ adn < wn := by
   have h9 := HOk9.o
   unfold okIns at h9
   rw [hk] at h9
   rw [if_pos (by simp), Bool.and_eq_true] at h9
   exact adr_of h9.2
  subst ha
  obtain ⟨bv, Hbv, HEv1⟩ : ∃ bv : Bool, Hid (bv = false) /\ Hid (evOf ⟨wA, wn, wk, ws, some ⟨tb, to', none⟩, tn, tk, th⟩ S ⟨t, false, ua⟩ = some ⟨t, kd, adn, bv⟩) := ⟨_, Lh rfl, by rw [HEv.o, hk]; exact Lh rfl⟩
  have b1 : (kd == 1) = true := by simp [hk]
  have b2 : (kd == 2) = false := by simp [hk]
  have b3 : (kd == 3) = false := by simp [hk]
  have b4 : decide (kd = 1) = true := by simp [hk]
  have b5 : decide (kd = 2) = false := by simp [hk]
  have b6 : decide (kd = 3) = false := by simp [hk]
  have HK := Lh hk
  clear hk
  obtain ⟨w6, hw6, HV6, HN6, HZ6, HE6, HW6, HSt6⟩ : ∃ Z9, Z9 = w5 /\ Hid (Blk Z9 ge 109 [.int .i64 t, .int .i64 kd, .int .i64 adn, .bool bv]) /\ Hid (Blk Z9 gn 77 (stL h1 tn wn)) /\ Hid (Blk Z9 (w.heap.size + 1 + 1 + 1) 77 [.slice none 0 0, .slice none 0 0, .slice none 0 0, .slice none 0 0]) /\ Hid (Blk Z9 (w.heap.size + 1 + 1 + 1 + 1) 109 [.int .i64 0, .int .i64 0, .int .i64 0, .bool false]) /\ Hid (Below w.heap.size w Z9) /\ Hid (StAt Z9 h1 tn wn (turnS ⟨wA, wn, wk, ws, some ⟨tb, to', none⟩, tn, tk, th⟩ S ⟨t, false, ua⟩)) := ⟨_, rfl, by rw [Hbv.o]; exact HV5, HN5, HZ5, HE5, HW5, HSt5⟩
  go_upto_region 13 with fail
  rw [<- hw6]
  clear hw6
 case' inr.inl =>
  obtain ⟨adn, ha, _⟩ : ∃ adn : Nat, ad = adn /\ adn < wn := by
   have h9 := HOk9.o
   unfold okIns at h9
   rw [hk] at h9
   rw [if_neg (by simp), if_pos rfl, Bool.and_eq_true] at h9
   exact adr_of h9.1
  subst ha
  obtain ⟨bv, Hbv, HEv1⟩ : ∃ bv : Bool, Hid (bv = true) /\ Hid (evOf ⟨wA, wn, wk, ws, some ⟨tb, to', none⟩, tn, tk, th⟩ S ⟨t, false, ua⟩ = some ⟨t, kd, adn, bv⟩) := ⟨_, Lh rfl, by rw [HEv.o, hk]; exact Lh rfl⟩
  have b1 : (kd == 1) = false := by simp [hk]
  have b2 : (kd == 2) = true := by simp [hk]
  have b3 : (kd == 3) = false := by simp [hk]
  have b4 : decide (kd = 1) = false := by simp [hk]
  have b5 : decide (kd = 2) = true := by simp [hk]
  have b6 : decide (kd = 3) = false := by simp [hk]
  have HK := Lh hk
  clear hk
  have v3 := HV5.o.cell (i := 3) rfl
  have vf := HV5.o.frozen 3
  go_upto_region 13 with fail
  obtain ⟨w6, hw6, HV6, HN6, HZ6, HE6, HW6, HSt6⟩ : ∃ Z9, Z9 = w5.setCell ⟨ge, 3, none⟩ (.bool true) /\ Hid (Blk Z9 ge 109 [.int .i64 t, .int .i64 kd, .int .i64 adn, .bool bv]) /\ Hid (Blk Z9 gn 77 (stL h1 tn wn)) /\ Hid (Blk Z9 (w.heap.size + 1 + 1 + 1) 77 [.slice none 0 0, .slice none 0 0, .slice none 0 0, .slice none 0 0]) /\ Hid (Blk Z9 (w.heap.size + 1 + 1 + 1 + 1) 109 [.int .i64 0, .int .i64 0, .int .i64 0, .bool false]) /\ Hid (Below w.heap.size w Z9) /\ Hid (StAt Z9 h1 tn wn (turnS ⟨wA, wn, wk, ws, some ⟨tb, to', none⟩, tn, tk, th⟩ S ⟨t, false, ua⟩)) :=
   ⟨_, rfl, by rw [Hbv.o]; exact HV5.o.set_ 3 _, HN5.o.far (by dsimp only; omega) _, HZ5.o.far (by dsimp only; omega) _, HE5.o.far (by dsimp only; omega) _, HW5.o.setCell (by dsimp only; omega) _, HSt5.o.farE HV5.o⟩
  rw [<- hw6]
  clear hw6 v3 vf i0
 case' inr.inr.inl =>
  obtain ⟨adn, ha, _⟩ : ∃ adn : Nat, ad = adn /\ adn < wn := by
   have h9 := HOk9.o
   unfold okIns at h9
   rw [hk] at h9
   rw [if_pos (by simp), Bool.and_eq_true] at h9
   exact adr_of h9.2
  subst ha
  obtain ⟨rgn, hrg, hrg4⟩ : ∃ rgn : Nat, rg = rgn /\ rgn < 4 := by
   have h9 := HOk9.o
   unfold okIns at h9
   rw [hk, if_pos (by simp), Bool.and_eq_true] at h9
   exact reg_of h9.1
  subst hrg
  obtain ⟨S', hS'⟩ : ∃ S', turnS ⟨wA, wn, wk, ws, some ⟨tb, to', none⟩, tn, tk, th⟩ S ⟨t, false, ua⟩ = S' := ⟨_, rfl⟩
  obtain ⟨bv, Hbv, HEv1⟩ : ∃ bv : Bool, Hid (bv = (S'.r t rgn == 1)) /\ Hid (evOf ⟨wA, wn, wk, ws, some ⟨tb, to', none⟩, tn, tk, th⟩ S ⟨t, false, ua⟩ = some ⟨t, kd, adn, bv⟩) := ⟨_, Lh rfl, by rw [HEv.o, hS', hk]; exact Lh rfl⟩
  have b1 : (kd == 1) = false := by simp [hk]
  have b2 : (kd == 2) = false := by simp [hk]
  have b3 : (kd == 3) = true := by simp [hk]
  have b4 : decide (kd = 1) = false := by simp [hk]
  have b5 : decide (kd = 2) = false := by simp [hk]
  have b6 : decide (kd = 3) = true := by simp [hk]
  have HK := Lh hk
  clear hk
  have hs5 := HSt5.o
  rw [hS'] at hs5
  have rc := hs5.reg (LS.r_at (S := S') (t := t) (q := rgn) (by have := hs5.rlen; omega))
  have g0 : (0 : Int) <= rgn := by omega
  have g1 : (rgn : Int) < 4 := by omega
  have i1 := HI5.o.cell (i := 1) rfl
  have u0 := HU5.o.cell (i := 0) rfl
  have m1 := HN5.o.cell (i := 1) rfl
  have v3 := HV5.o.cell (i := 3) rfl
  have vf := HV5.o.frozen 3
  have HSS := Lh hS'
  clear hs5 hS'
  go_upto_region 11 with fail
  go_still_tail 10, (by kernel_rfl)
  go_upto_region 13 with fail
  obtain ⟨w6, hw6, HV6, HN6, HZ6, HE6, HW6, HSt6⟩ : ∃ Z9, Z9 = (w5.setCell ⟨ge, 3, none⟩ (.bool (S'.r t rgn == 1))).drew /\ Hid (Blk Z9 ge 109 [.int .i64 t, .int .i64 kd, .int .i64 adn, .bool bv]) /\ Hid (Blk Z9 gn 77 (stL h1 tn wn)) /\ Hid (Blk Z9 (w.heap.size + 1 + 1 + 1) 77 [.slice none 0 0, .slice none 0 0, .slice none 0 0, .slice none 0 0]) /\ Hid (Blk Z9 (w.heap.size + 1 + 1 + 1 + 1) 109 [.int .i64 0, .int .i64 0, .int .i64 0, .bool false]) /\ Hid (Below w.heap.size w Z9) /\ Hid (StAt Z9 h1 tn wn (turnS ⟨wA, wn, wk, ws, some ⟨tb, to', none⟩, tn, tk, th⟩ S ⟨t, false, ua⟩)) :=
   ⟨_, rfl, by rw [Hbv.o]; exact HV5.o.set_ 3 _, HN5.o.far (by dsimp only; omega) _, HZ5.o.far (by dsimp only; omega) _, HE5.o.far (by dsimp only; omega) _, (HW5.o.setCell (by dsimp only; omega) _).drew, (HSt5.o.farE HV5.o).on (Below.refl _ _).drew⟩
  rw [<- hw6]
  clear hw6 v3 vf i0 i1 u0 m1 rc
 case inr.inr.inr =>
  have HEv1 : Hid (evOf ⟨wA, wn, wk, ws, some ⟨tb, to', none⟩, tn, tk, th⟩ S ⟨t, false, ua⟩ = none) := by
   rw [HEv.o]
   unfold eventS
   rw [if_neg k1, if_neg k2, if_neg k3]
   exact Lh rfl
  have b1 : (kd == 1) = false := by simpa using k1
  have b2 : (kd == 2) = false := by simpa using k2
  have b3 : (kd == 3) = false := by simpa using k3
  have b4 : decide (kd = 1) = false := by simpa using k1
  have b5 : decide (kd = 2) = false := by simpa using k2
  have b6 : decide (kd = 3) = false := by simpa using k3
  go_upto_region 7 with fail
  refine wp_region_lit ?_
  refine wpList_load_row rfl _ _ rfl gn rfl 77 _ (0, 0) _ HN5.o Tryz.underlying77 rfl size_lst ?_
  have HR6 := Lh (setRow_heap w5 (w.heap.size + 1 + 1 + 1) _ #[.slice (some ⟨h1.gw, 0, none⟩) wn h1.kw, .slice (some ⟨h1.gr, 0, none⟩) tn h1.kr, .slice (some ⟨h1.gp, 0, none⟩) tn h1.kp, .slice (some ⟨h1.gb, 0, none⟩) tn h1.kb] _ _ HZ5.o)
  have HE7 : Hid (Blk (w5.setRow (w.heap.size + 1 + 1 + 1) #[.slice (some ⟨h1.gw, 0, none⟩) wn h1.kw, .slice (some ⟨h1.gr, 0, none⟩) tn h1.kr, .slice (some ⟨h1.gp, 0, none⟩) tn h1.kp, .slice (some ⟨h1.gb, 0, none⟩) tn h1.kb]) (w.heap.size + 1 + 1 + 1 + 1) 109 [.int .i64 0, .int .i64 0, .int .i64 0, .bool false]) := HE5.o.kept (rowK (by omega))
  go_wp2_with (first
   | refine wpList_store_row rfl _ _ _ rfl (w.heap.size + 1 + 1 + 1) #[.slice (some ⟨h1.gw, 0, none⟩) wn h1.kw, .slice (some ⟨h1.gr, 0, none⟩) tn h1.kr, .slice (some ⟨h1.gp, 0, none⟩) tn h1.kp, .slice (some ⟨h1.gb, 0, none⟩) tn h1.kb] rfl rfl 77 _ HZ5.o size_lst rfl (lst_one _ _ _ _ _ _ _ _ _ _ _ _) ?_
   | refine wpList_store_row rfl _ _ _ rfl (w.heap.size + 1 + 1 + 1 + 1) #[.int .i64 0, .int .i64 0, .int .i64 0, .bool false] rfl rfl 109 _ HE7.o size_lev rfl (lev_one _ _ _ _) ?_)
  (try simp only [Act.put])
  go_wp2_with fail
  have HR7 := Lh (setRow_heap (w5.setRow (w.heap.size + 1 + 1 + 1) #[.slice (some ⟨h1.gw, 0, none⟩) wn h1.kw, .slice (some ⟨h1.gr, 0, none⟩) tn h1.kr, .slice (some ⟨h1.gp, 0, none⟩) tn h1.kp, .slice (some ⟨h1.gb, 0, none⟩) tn h1.kb]) (w.heap.size + 1 + 1 + 1 + 1) _ #[.int .i64 0, .int .i64 0, .int .i64 0, .bool false] _ _ HE7.o)
  have HR8 : Hid (((w5.setRow (w.heap.size + 1 + 1 + 1) #[.slice (some ⟨h1.gw, 0, none⟩) wn h1.kw, .slice (some ⟨h1.gr, 0, none⟩) tn h1.kr, .slice (some ⟨h1.gp, 0, none⟩) tn h1.kp, .slice (some ⟨h1.gb, 0, none⟩) tn h1.kb]).setRow (w.heap.size + 1 + 1 + 1 + 1) #[.int .i64 0, .int .i64 0, .int .i64 0, .bool false]).heap[w.heap.size + 1 + 1 + 1]? = some (.cells #[.slice (some ⟨h1.gw, 0, none⟩) wn h1.kw, .slice (some ⟨h1.gr, 0, none⟩) tn h1.kr, .slice (some ⟨h1.gp, 0, none⟩) tn h1.kp, .slice (some ⟨h1.gb, 0, none⟩) tn h1.kb] 77 (0, 0))) := (rowK (by omega)).trans HR6.o
  refine bodyPost_ret_by (results_c2t1 rfl _ _ (w.heap.size + 1 + 1 + 1) (w.heap.size + 1 + 1 + 1 + 1) 77 109 _ _ (0, 0) (0, 0) _ _ rfl HR8.o Tryz.underlying77 rfl size_lst rfl HR7.o Tryz.underlying109 rfl size_lev) rfl ?_
  exact mad_end (l := ⟨wA, wn, wk, ws, some ⟨tb, to', none⟩, tn, tk, th⟩) HW5.o HNew.o HSt5.o hz0 (by rw [HEv1.o]; rfl) (by rw [HEv1.o]; rfl)
 all_goals (
  refine wp_region_held_drew (S := fun W => Blk W gn 77 [.slice (some ⟨h1.gw, 0, none⟩) wn h1.kw, .slice (some ⟨h1.gr, 0, none⟩) tn h1.kr, .slice (some ⟨h1.gp, 0, none⟩) tn h1.kp, .slice (some ⟨h1.gb, 0, none⟩) tn h1.kb] /\ Blk W ge 109 [.int .i64 t, .int .i64 kd, .int .i64 adn, .bool bv]) (by kernel_rfl) ⟨HN6.o, HV6.o⟩ (fun hS => ?_)
  refine tkF 0 (v := .agg #[.slice (some ⟨h1.gw, 0, none⟩) wn h1.kw, .slice (some ⟨h1.gr, 0, none⟩) tn h1.kr, .slice (some ⟨h1.gp, 0, none⟩) tn h1.kp, .slice (some ⟨h1.gb, 0, none⟩) tn h1.kb]) ?_ ?_
  ·(intro W hSw; (try dsimp only at hSw); have g0 := hSw.1.cell (i := 0) rfl; have g1 := hSw.1.cell (i := 1) rfl; have g2 := hSw.1.cell (i := 2) rfl; have g3 := hSw.1.cell (i := 3) rfl; have k0 := hSw.2.cell (i := 0) rfl; have k1 := hSw.2.cell (i := 1) rfl; have k2 := hSw.2.cell (i := 2) rfl; have k3 := hSw.2.cell (i := 3) rfl; go_simp)
  try simp only [Act.put, List.setIfInBounds_toArray, List.set_cons_zero, List.set_cons_succ]
  refine tkF 1 (v := .agg #[.int .i64 t, .int .i64 kd, .int .i64 adn, .bool bv]) ?_ ?_
  ·(intro W hSw; (try dsimp only at hSw); have g0 := hSw.1.cell (i := 0) rfl; have g1 := hSw.1.cell (i := 1) rfl; have g2 := hSw.1.cell (i := 2) rfl; have g3 := hSw.1.cell (i := 3) rfl; have k0 := hSw.2.cell (i := 0) rfl; have k1 := hSw.2.cell (i := 1) rfl; have k2 := hSw.2.cell (i := 2) rfl; have k3 := hSw.2.cell (i := 3) rfl; go_simp)
  try simp only [Act.put, List.setIfInBounds_toArray, List.set_cons_zero, List.set_cons_succ]
  refine rd 2 fun K1 hK1 => ?_
  refine wp_store_row _ _ _ rfl (w.heap.size + 1 + 1 + 1) #[.slice (some ⟨h1.gw, 0, none⟩) wn h1.kw, .slice (some ⟨h1.gr, 0, none⟩) tn h1.kr, .slice (some ⟨h1.gp, 0, none⟩) tn h1.kp, .slice (some ⟨h1.gb, 0, none⟩) tn h1.kb] rfl rfl 77 _ HZ6.o size_lst rfl (lst_one _ _ _ _ _ _ _ _ _ _ _ _) ?_
  have hS2 : Blk ((w6.drew).setRow (w.heap.size + 1 + 1 + 1) #[.slice (some ⟨h1.gw, 0, none⟩) wn h1.kw, .slice (some ⟨h1.gr, 0, none⟩) tn h1.kr, .slice (some ⟨h1.gp, 0, none⟩) tn h1.kp, .slice (some ⟨h1.gb, 0, none⟩) tn h1.kb]) gn 77 [.slice (some ⟨h1.gw, 0, none⟩) wn h1.kw, .slice (some ⟨h1.gr, 0, none⟩) tn h1.kr, .slice (some ⟨h1.gp, 0, none⟩) tn h1.kp, .slice (some ⟨h1.gb, 0, none⟩) tn h1.kb] /\ Blk ((w6.drew).setRow (w.heap.size + 1 + 1 + 1) #[.slice (some ⟨h1.gw, 0, none⟩) wn h1.kw, .slice (some ⟨h1.gr, 0, none⟩) tn h1.kr, .slice (some ⟨h1.gp, 0, none⟩) tn h1.kp, .slice (some ⟨h1.gb, 0, none⟩) tn h1.kb]) ge 109 [.int .i64 t, .int .i64 kd, .int .i64 adn, .bool bv] := ⟨HN6.o.kept (rowK (by omega)), HV6.o.kept (rowK (by omega))⟩
  refine hK1.out _ _ hS2 (fun _ => ?_)
  refine rd 3 fun K2 hK2 => ?_
  have hx7 : Blk ((w6.drew).setRow (w.heap.size + 1 + 1 + 1) #[.slice (some ⟨h1.gw, 0, none⟩) wn h1.kw, .slice (some ⟨h1.gr, 0, none⟩) tn h1.kr, .slice (some ⟨h1.gp, 0, none⟩) tn h1.kp, .slice (some ⟨h1.gb, 0, none⟩) tn h1.kb]) (w.heap.size + 1 + 1 + 1 + 1) 109 [.int .i64 0, .int .i64 0, .int .i64 0, .bool false] := HE6.o.kept (rowK (by omega))
  refine wp_store_row _ _ _ rfl (w.heap.size + 1 + 1 + 1 + 1) #[.int .i64 t, .int .i64 kd, .int .i64 adn, .bool bv] rfl rfl 109 _ hx7 size_lev rfl (lev_one _ _ _ _) ?_
  refine hK2.out _ _ ⟨hS2.1.kept (rowK (by omega)), hS2.2.kept (rowK (by omega))⟩ (fun hS3 => ?_)
  refine tkF 4 (v := ?_) ?_ ?_
  rotate_left
  ·(intro W hSw; (try dsimp only at hSw); go_simp; try with_reducible rfl)
  try simp only [Act.put, List.setIfInBounds_toArray, List.set_cons_zero, List.set_cons_succ]
  refine wpAnyH_done (by kernel_rfl) ?_ _
  go_wp2_with fail
  have HR7 := Lh (setRow_heap ((w6.drew).setRow (w.heap.size + 1 + 1 + 1) #[.slice (some ⟨h1.gw, 0, none⟩) wn h1.kw, .slice (some ⟨h1.gr, 0, none⟩) tn h1.kr, .slice (some ⟨h1.gp, 0, none⟩) tn h1.kp, .slice (some ⟨h1.gb, 0, none⟩) tn h1.kb]) (w.heap.size + 1 + 1 + 1 + 1) _ #[.int .i64 t, .int .i64 kd, .int .i64 adn, .bool bv] _ _ hx7)
  have HR8 : Hid ((((w6.drew).setRow (w.heap.size + 1 + 1 + 1) #[.slice (some ⟨h1.gw, 0, none⟩) wn h1.kw, .slice (some ⟨h1.gr, 0, none⟩) tn h1.kr, .slice (some ⟨h1.gp, 0, none⟩) tn h1.kp, .slice (some ⟨h1.gb, 0, none⟩) tn h1.kb]).setRow (w.heap.size + 1 + 1 + 1 + 1) #[.int .i64 t, .int .i64 kd, .int .i64 adn, .bool bv]).heap[w.heap.size + 1 + 1 + 1]? = some (.cells #[.slice (some ⟨h1.gw, 0, none⟩) wn h1.kw, .slice (some ⟨h1.gr, 0, none⟩) tn h1.kr, .slice (some ⟨h1.gp, 0, none⟩) tn h1.kp, .slice (some ⟨h1.gb, 0, none⟩) tn h1.kb] 77 (0, 0))) := (rowK (by omega)).trans (setRow_heap w6.drew (w.heap.size + 1 + 1 + 1) _ #[.slice (some ⟨h1.gw, 0, none⟩) wn h1.kw, .slice (some ⟨h1.gr, 0, none⟩) tn h1.kr, .slice (some ⟨h1.gp, 0, none⟩) tn h1.kp, .slice (some ⟨h1.gb, 0, none⟩) tn h1.kb] _ _ HZ6.o)
  refine bodyPost_ret_by (results_c2t1 rfl _ _ (w.heap.size + 1 + 1 + 1) (w.heap.size + 1 + 1 + 1 + 1) 77 109 _ _ (0, 0) (0, 0) _ _ rfl HR8.o Tryz.underlying77 rfl size_lst rfl HR7.o Tryz.underlying109 rfl size_lev) rfl ?_
  exact mad_end (l := ⟨wA, wn, wk, ws, some ⟨tb, to', none⟩, tn, tk, th⟩) HW6.o.drew HNew.o (HSt6.o.on (Below.refl _ _).drew) hz0 (by rw [HEv1.o]; rfl) (by rw [HEv1.o]; rfl))
theorem made_any (l : Lit) (w : World) (h : SH) (S : LS) (u : Tn) (hl : LitAt w w.heap.size l) (hs : StAt w h l.tn l.wn S) (hg : GoodS l S) (hok : okLit l = true) :
  Calls Tryz.prog 26 #[litV l, stV h l.tn l.wn, tnV u] w (MadR l S u w) := by
 cases hp : pickS l S u with
 | some x => exact made_yes l w h S u x hl hs hg hok hp
 | none => exact made_no l w h S u hl hs hg hok hp
end Go.Proofs.YtgjdgapfnfhklaaGreat
