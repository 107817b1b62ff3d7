/-
races.Events.
-/
import Derived.Test.YtgjdgapfnfhklaaGreatMad
import Derived.Test.YtgjdgapfnfhklaaGreatBeg
set_option linter.unusedSimpArgs false
set_option linter.unusedVariables false
set_option maxRecDepth 100000
set_option maxHeartbeats 8000000
namespace Go.Proofs.YtgjdgapfnfhklaaGreat
open Go.RowKit
theorem info_lev : (Tryz.prog.info? 109).map (fun i => (i.zero, i.size, i.bytes)) = some (some (.agg #[.int .i64 0, .int .i64 0, .int .i64 0, .bool false]), 4, 32) := by kernel_rfl
def EvsR (l : Lit) (us : List Tn) (w : World) (e : Ending) (w' : World) : Prop := ∃ A k, e = .returned (.tuple #[.slice A (playE l us us.length).length k, .int .i64 0]) /\ w'.ownsRow w.heap.size 109 4 (.slice A (playE l us us.length).length k) (playE l us us.length).length (evVals (playE l us us.length)) /\ Below w.heap.size w w'
def EvsN (c : Int) (w : World) (e : Ending) (w' : World) : Prop := e = .returned (.tuple #[.slice none 0 0, .int .i64 c]) /\ Below w.heap.size w w'
def EvsP (l : Lit) (us : List Tn) (n : Nat) (w : World) (e : Ending) (w' : World) : Prop := (n <= 4096 -> EvsR l us w e w') /\ (¬ n <= 4096 -> EvsN 3 w e w')
structure EvI (l : Lit) (us : List Tn) (w : World) (g6 j : Nat) (v : Value) (W : World) : Prop where
 bel : Below w.heap.size w W
 lit : Blk W w.heap.size 25 (litL l)
 ex : ∃ h, NewS w.heap.size h /\ Blk W g6 77 (stL h l.tn l.wn) /\ StAt W h l.tn l.wn (playS l us j)
 ev : W.ownsRow w.heap.size 109 4 v (playE l us j).length (evVals (playE l us j))
 g6 : w.heap.size < g6
theorem own_row {w : World} {B e s n g : Nat} {t : TypeId} {v : Value} {xs cs : List Value} {ds : Array Value} (h : w.ownsRow B e s v n xs) (hB : Blk w g t cs) (hne : e ≠ t) : (w.setRow g ds).ownsRow B e s v n xs := by
 have hn := own_nb h hB hne
 refine ⟨h.1, ?_⟩
 rcases h.2 with h0 | ⟨q, cap, cur, hv, hb, hg, h3⟩
 ·exact Or.inl h0
 ·refine Or.inr ⟨q, cap, cur, hv, hb, ?_, h3⟩
  rw [rowK (fun he => hn (by rw [hv, he]; rfl))]
  exact hg
theorem EvI.step {l : Lit} {us : List Tn} {w W W' : World} {g6 j : Nat} {v : Value} {u : Tn} {h' : SH} (h : EvI l us w g6 j v W) (hu : us[j]? = some u) (hb : Below W.heap.size W W') (hn : NewS W.heap.size h') (hs : StAt W' h' l.tn l.wn (turnS l (playS l us j) u)) :
  Below w.heap.size w (W'.setRow g6 (stL h' l.tn l.wn).toArray) /\ Blk (W'.setRow g6 (stL h' l.tn l.wn).toArray) w.heap.size 25 (litL l) /\ Blk (W'.setRow g6 (stL h' l.tn l.wn).toArray) g6 77 (stL h' l.tn l.wn) /\ StAt (W'.setRow g6 (stL h' l.tn l.wn).toArray) h' l.tn l.wn (playS l us (j + 1)) /\ (W'.setRow g6 (stL h' l.tn l.wn).toArray).ownsRow w.heap.size 109 4 v (playE l us j).length (evVals (playE l us j)) := by
 obtain ⟨h0, _, hg, _⟩ := h.ex
 have hg6 := hg.below hb hg.lt
 have h6 := h.g6
 refine ⟨rowB (h.bel.trans (hb.mono h.bel.size)) (by omega), (h.lit.below hb h.lit.lt).kept (rowK (by omega)), setRow_heap W' g6 _ _ _ _ hg6, ?_, own_row (h.ev.below hb) hg6 (by decide)⟩
 rw [playS_next hu]
 exact hs.row hn hg.lt
theorem events_ok (l : Lit) (A : Option Addr) (n k : Nat) (us : List Tn) (w : World) (h : LitAt w w.heap.size l) (hu : Sl w w.heap.size 3 A n (tnVals us)) (hok : okLit l = true) :
  Calls Tryz.prog 44 #[litV l, .slice A n k] w (EvsP l us n w) := by
 have hul : us.length = n := by have := hu.1; rw [tnVals_len] at this; omega
 have HB0 : Hid (Blk (w.alloc (.cells #[.slice l.wA l.wn l.wk, .slice l.tA l.tn l.tk] 25)) w.heap.size 25 (litL l)) := Blk.new _ _ _
 have HW0 : Hid (Below w.heap.size w (w.alloc (.cells #[.slice l.wA l.wn l.wk, .slice l.tA l.tn l.tk] 25))) := (Below.refl _ _).alloc (Nat.le_refl _) _
 have HL := Lh h
 have HU := Lh hu
 have HUl := Lh hul
 have HOk := Lh hok
 have HGood : Hid (∀ j, GoodS l (playS l us j)) := playS_good h.wlen us
 clear h hu hul hok
 obtain ⟨i1, hi1, hi1z, hi1s, hi1b⟩ := info_parts info_lev
 go_enter Tryz.func44, Tryz.ntmps44
 go_upto_region 1 with fail
 generalize w.alloc (.cells #[.slice l.wA l.wn l.wk, .slice l.tA l.tn l.tk] 25) = w0 at HB0 HW0 ⊢
 have q0 := HB0.o.cell (i := 0) rfl
 have q1 := HB0.o.cell (i := 1) rfl
 go_wp2_with fail
 refine (begin_ok l w0 ((HL.o.keep HW0.o).up HW0.o.size) HOk.o).mono ?_
 rintro e w1 ⟨h1, rfl, hn1, hs1, hb1⟩
 have HW1 := Lh (HW0.o.trans (hb1.mono HW0.o.size))
 have HB1 := Lh (HB0.o.below hb1 HB0.o.lt)
 have HN1 := Lh hn1
 have HS1 := Lh hs1
 have hz0 := HB0.o.lt
 have hz1 := hb1.size
 have b1 : ((0 : Int) != 0) = false := rfl
 clear hb1 hn1 hs1 q0 q1
 go_upto_region 4 with fail
 obtain ⟨g6, hg6⟩ : ∃ g6, g6 = w1.heap.size := ⟨_, rfl⟩
 obtain ⟨w2, hw2, HI⟩ : ∃ Z9, Z9 = w1.alloc (.cells #[.slice (some ⟨h1.gw, 0, none⟩) l.wn h1.kw, .slice (some ⟨h1.gr, 0, none⟩) l.tn h1.kr, .slice (some ⟨h1.gp, 0, none⟩) l.tn h1.kp, .slice (some ⟨h1.gb, 0, none⟩) l.tn h1.kb] 77) /\ Hid (EvI l us w g6 0 (.slice none 0 0) Z9) := ⟨_, rfl, ⟨HW1.o.alloc HW1.o.size _, HB1.o.alloc _, ⟨h1, HN1.o.le HW0.o.size, by rw [hg6]; exact Blk.new _ _ _, HS1.o.on ((Below.refl _ _).alloc (Nat.le_refl _) _)⟩, World.ownsRow_nil _ _ _ _, by omega⟩⟩
 rw [<- hw2, <- hg6]
 clear hw2 hg6 HB0 HW0 HW1 HB1 HN1 HS1 hz0 hz1
 by_cases hle : n <= 4096
 case neg =>
  have b2 : decide ((4096 : Int) < n) = true := by simp; omega
  have b3 : (4096 : Int) < n := by omega
  have HRes : Hid (∀ e W, EvsN 3 w e W -> EvsP l us n w e W) := fun e W h9 => ⟨fun h0 => absurd h0 hle, fun _ => h9⟩
  go_wp2_with fail
  go_ret2
  exact HRes.o _ _ ⟨rfl, HI.o.bel⟩
 have b2 : decide ((4096 : Int) < n) = false := by simp; omega
 have b3 : ¬ (4096 : Int) < n := by omega
 have HRes : Hid (∀ e W, EvsR l us w e W -> EvsP l us n w e W) := fun e W h9 => ⟨fun _ => h9, fun h0 => absurd hle h0⟩
 go_wp2_with fail
 clear b1 b2 b3
 go_loopg [8, 27] n (fun gk v8 i wr => ∃ (j : Nat) (v : Value), j + gk = n /\ i = .int .i64 j /\ v = v8 /\ Hid (EvI l us w g6 j v wr))
 case atStart => exact ⟨0, _, by omega, rfl, rfl, HI⟩
 case round =>
  obtain ⟨j, v, hj, rfl, hv8, HJ⟩ := hrel
  subst hv8
  by_cases hlt : j < n
  ·obtain ⟨u, hu⟩ := at_lt (show j < us.length by rw [HUl.o]; exact hlt)
   obtain ⟨ub, uo, hua, hub, huc⟩ := (HU.o.below HJ.o.bel).2 (by omega)
   have c0 := huc (j * 3) _ (tnVals_get hu 0 (by omega))
   have c1 := huc (j * 3 + 1) _ (tnVals_get hu 1 (by omega))
   have c2 := huc (j * 3 + 2) _ (tnVals_get hu 2 (by omega))
   rw [<- Nat.add_assoc] at c1 c2
   subst hua
   have e1 : (j : Int) < n := by omega
   have e0 : (0 : Int) <= j := by omega
   have HUe := Lh hu
   clear huc hu
   go_upto_region 10 with fail
   obtain ⟨h0, hn0, hg0, hs0⟩ := HJ.o.ex
   have HG0 := Lh hg0
   have HS0 := Lh hs0
   clear hn0 hg0 hs0 c0 c1 c2
   obtain ⟨ga, hga⟩ : ∃ ga, ga = wr.heap.size := ⟨_, rfl⟩
   obtain ⟨x1, hx1, HA1, hbx1⟩ : ∃ Z9, Z9 = wr.alloc (.cells #[.int .i64 u.t, .bool u.out, .int .i64 u.a] 91) /\ Hid (Blk Z9 ga 91 (tnL u)) /\ Below wr.heap.size wr Z9 := ⟨_, rfl, by rw [hga]; exact Blk.new _ _ _, (Below.refl _ _).alloc (Nat.le_refl _) _⟩
   rw [<- hx1, <- hga]
   have HBx1 := Lh hbx1
   have a0 := HA1.o.cell (i := 0) rfl
   have a1 := HA1.o.cell (i := 1) rfl
   have a2 := HA1.o.cell (i := 2) rfl
   have hG1 := HG0.o.below hbx1 HG0.o.lt
   have hL1 := HJ.o.lit.below hbx1 HJ.o.lit.lt
   have g0 := hG1.cell (i := 0) rfl
   have g1 := hG1.cell (i := 1) rfl
   have g2 := hG1.cell (i := 2) rfl
   have g3 := hG1.cell (i := 3) rfl
   have l0 := hL1.cell (i := 0) rfl
   have l1 := hL1.cell (i := 1) rfl
   have HWx : Hid (Below w.heap.size w x1) := HJ.o.bel.trans (hbx1.mono HJ.o.bel.size)
   clear hx1 hga hG1 hL1 hbx1
   go_wp2_with fail
   refine (made_any l x1 h0 (playS l us j) u ((HL.o.keep HWx.o).up HWx.o.size) (HS0.o.on HBx1.o) (HGood.o j) HOk.o).mono ?_
   rintro e x2 ⟨h2, rfl, hnw, hst, hb2⟩
   have HBx2 := Lh (HBx1.o.trans (hb2.mono HBx1.o.size))
   have HNw := Lh (hnw.le HBx1.o.size)
   have HSt := Lh hst
   clear hnw hst hb2 a0 a1 a2 g0 g1 g2 g3 l0 l1 HA1 HBx1 HWx
   have hevl : ∀ o, evOf l (playS l us j) u = o -> evO (evOf l (playS l us j) u) = evO o := fun o h => by rw [h]
   cases hev : evOf l (playS l us j) u with
   | none =>
    have hev2 : Option.isSome (none : Option Ev) = false := rfl
    unfold evO
    have hT9 : Blk ((x2.alloc (.cells #[.slice none 0 0, .slice none 0 0, .slice none 0 0, .slice none 0 0] 77)).alloc (.cells #[.int .i64 0, .int .i64 0, .int .i64 0, .bool false] 109)) x2.heap.size 77 [.slice none 0 0, .slice none 0 0, .slice none 0 0, .slice none 0 0] := (Blk.new x2 77 [.slice none 0 0, .slice none 0 0, .slice none 0 0, .slice none 0 0]).alloc _
    have hE9 : Blk (((x2.alloc (.cells #[.slice none 0 0, .slice none 0 0, .slice none 0 0, .slice none 0 0] 77)).alloc (.cells #[.int .i64 0, .int .i64 0, .int .i64 0, .bool false] 109)).setRow x2.heap.size #[.slice (some ⟨h2.gw, 0, none⟩) l.wn h2.kw, .slice (some ⟨h2.gr, 0, none⟩) l.tn h2.kr, .slice (some ⟨h2.gp, 0, none⟩) l.tn h2.kp, .slice (some ⟨h2.gb, 0, none⟩) l.tn h2.kb]) (x2.heap.size + 1) 109 [.int .i64 0, .int .i64 0, .int .i64 0, .bool false] := by
     have h9 := Blk.new (x2.alloc (.cells #[.slice none 0 0, .slice none 0 0, .slice none 0 0, .slice none 0 0] 77)) 109 [.int .i64 0, .int .i64 0, .int .i64 0, .bool false]
     rw [World.size_alloc] at h9
     exact h9.kept (rowK (by omega))
    go_upto_region 11 with (first
     | refine wpList_store_row rfl _ _ _ rfl x2.heap.size #[.slice (some ⟨h2.gw, 0, none⟩) l.wn h2.kw, .slice (some ⟨h2.gr, 0, none⟩) l.tn h2.kr, .slice (some ⟨h2.gp, 0, none⟩) l.tn h2.kp, .slice (some ⟨h2.gb, 0, none⟩) l.tn h2.kb] rfl rfl 77 _ hT9 size_lst rfl (lst_one _ _ _ _ _ _ _ _ _ _ _ _) ?_
     | refine wpList_store_row rfl _ _ _ rfl (x2.heap.size + 1) #[.int .i64 0, .int .i64 0, .int .i64 0, .bool false] rfl rfl 109 _ hE9 size_lev rfl (lev_one _ _ _ _) ?_)
    (try simp only [Act.put])
    go_upto_region 11 with fail
    obtain ⟨gs, hgs⟩ : ∃ gs, gs = x2.heap.size := ⟨_, rfl⟩
    obtain ⟨x3, hx3, HT3, HE3, HB3⟩ : ∃ Z9, Z9 = (((x2.alloc (.cells #[.slice none 0 0, .slice none 0 0, .slice none 0 0, .slice none 0 0] 77)).alloc (.cells #[.int .i64 0, .int .i64 0, .int .i64 0, .bool false] 109)).setRow x2.heap.size #[.slice (some ⟨h2.gw, 0, none⟩) l.wn h2.kw, .slice (some ⟨h2.gr, 0, none⟩) l.tn h2.kr, .slice (some ⟨h2.gp, 0, none⟩) l.tn h2.kp, .slice (some ⟨h2.gb, 0, none⟩) l.tn h2.kb]).setRow (x2.heap.size + 1) #[.int .i64 0, .int .i64 0, .int .i64 0, .bool false] /\ Hid (Blk Z9 gs 77 (stL h2 l.tn l.wn)) /\ Hid (Blk Z9 (gs + 1) 109 [.int .i64 0, .int .i64 0, .int .i64 0, .bool false]) /\ Hid (Below x2.heap.size x2 Z9) := by
     refine ⟨_, rfl, ?_, ?_, rowB (rowB (((Below.refl _ _).alloc (Nat.le_refl _) _).alloc (by simp) _) (Nat.le_refl _)) (by omega)⟩
     ·rw [hgs]
      exact Blk.kept (setRow_heap _ _ _ #[.slice (some ⟨h2.gw, 0, none⟩) l.wn h2.kw, .slice (some ⟨h2.gr, 0, none⟩) l.tn h2.kr, .slice (some ⟨h2.gp, 0, none⟩) l.tn h2.kp, .slice (some ⟨h2.gb, 0, none⟩) l.tn h2.kb] _ _ hT9) (rowK (by omega))
     ·rw [hgs]
      exact setRow_heap _ _ _ #[.int .i64 0, .int .i64 0, .int .i64 0, .bool false] _ _ hE9
    rw [<- hx3, <- hgs]
    have HBx3 := Lh (HBx2.o.trans (HB3.o.mono HBx2.o.size))
    have HSt3 := Lh (HSt.o.on HB3.o)
    have hgsl : wr.heap.size <= gs := by rw [hgs]; exact HBx2.o.size
    have hg6l := HG0.o.lt
    clear hx3 hT9 hE9 HB3 HBx2 HSt hgs
    refine wp_region_lit ?_
    refine wpList_load_row rfl _ _ rfl gs rfl 77 _ (0, 0) _ HT3.o Tryz.underlying77 rfl size_lst ?_
    have hG3 := HG0.o.below HBx3.o HG0.o.lt
    go_upto_region 12 with (refine wpList_store_row rfl _ _ _ rfl g6 #[.slice (some ⟨h2.gw, 0, none⟩) l.wn h2.kw, .slice (some ⟨h2.gr, 0, none⟩) l.tn h2.kr, .slice (some ⟨h2.gp, 0, none⟩) l.tn h2.kp, .slice (some ⟨h2.gb, 0, none⟩) l.tn h2.kb] rfl rfl 77 _ hG3 size_lst rfl (lst_one _ _ _ _ _ _ _ _ _ _ _ _) ?_)
    (try simp only [Act.put])
    obtain ⟨x4, hx4, hstep, HE4⟩ : ∃ Z9, Z9 = x3.setRow g6 #[.slice (some ⟨h2.gw, 0, none⟩) l.wn h2.kw, .slice (some ⟨h2.gr, 0, none⟩) l.tn h2.kr, .slice (some ⟨h2.gp, 0, none⟩) l.tn h2.kp, .slice (some ⟨h2.gb, 0, none⟩) l.tn h2.kb] /\ Hid (Below w.heap.size w Z9 /\ Blk Z9 w.heap.size 25 (litL l) /\ Blk Z9 g6 77 (stL h2 l.tn l.wn) /\ StAt Z9 h2 l.tn l.wn (playS l us (j + 1)) /\ Z9.ownsRow w.heap.size 109 4 v (playE l us j).length (evVals (playE l us j))) /\ Hid (Blk Z9 (gs + 1) 109 [.int .i64 0, .int .i64 0, .int .i64 0, .bool false]) := ⟨_, rfl, HJ.o.step HUe.o HBx3.o HNw.o HSt3.o, HE3.o.kept (rowK (by omega))⟩
    rw [<- hx4]
    have HNw2 := Lh (HNw.o.le HJ.o.bel.size)
    have HG6 := Lh HJ.o.g6
    clear hx4 hG3 HT3 HE3 HBx3 HSt3
    have HPe := Lh (playE_none HUe.o hev)
    go_wp2_with fail
    go_roundg (gk - 1)
    case measure => omega
    case rel => exact ⟨j + 1, v, by omega, by go_num, rfl, ⟨hstep.out.1, hstep.out.2.1, ⟨h2, HNw2.o, hstep.out.2.2.1, hstep.out.2.2.2.1⟩, by rw [HPe.o]; exact hstep.out.2.2.2.2, HG6.o⟩⟩
   | some e =>
    have hev2 : ∀ e : Ev, Option.isSome (some e) = true := fun _ => rfl
    unfold evO
    have hT9 : Blk ((x2.alloc (.cells #[.slice none 0 0, .slice none 0 0, .slice none 0 0, .slice none 0 0] 77)).alloc (.cells #[.int .i64 0, .int .i64 0, .int .i64 0, .bool false] 109)) x2.heap.size 77 [.slice none 0 0, .slice none 0 0, .slice none 0 0, .slice none 0 0] := (Blk.new x2 77 [.slice none 0 0, .slice none 0 0, .slice none 0 0, .slice none 0 0]).alloc _
    have hE9 : Blk (((x2.alloc (.cells #[.slice none 0 0, .slice none 0 0, .slice none 0 0, .slice none 0 0] 77)).alloc (.cells #[.int .i64 0, .int .i64 0, .int .i64 0, .bool false] 109)).setRow x2.heap.size #[.slice (some ⟨h2.gw, 0, none⟩) l.wn h2.kw, .slice (some ⟨h2.gr, 0, none⟩) l.tn h2.kr, .slice (some ⟨h2.gp, 0, none⟩) l.tn h2.kp, .slice (some ⟨h2.gb, 0, none⟩) l.tn h2.kb]) (x2.heap.size + 1) 109 [.int .i64 0, .int .i64 0, .int .i64 0, .bool false] := by
     have h9 := Blk.new (x2.alloc (.cells #[.slice none 0 0, .slice none 0 0, .slice none 0 0, .slice none 0 0] 77)) 109 [.int .i64 0, .int .i64 0, .int .i64 0, .bool false]
     rw [World.size_alloc] at h9
     exact h9.kept (rowK (by omega))
    go_upto_region 11 with (first
     | refine wpList_store_row rfl _ _ _ rfl x2.heap.size #[.slice (some ⟨h2.gw, 0, none⟩) l.wn h2.kw, .slice (some ⟨h2.gr, 0, none⟩) l.tn h2.kr, .slice (some ⟨h2.gp, 0, none⟩) l.tn h2.kp, .slice (some ⟨h2.gb, 0, none⟩) l.tn h2.kb] rfl rfl 77 _ hT9 size_lst rfl (lst_one _ _ _ _ _ _ _ _ _ _ _ _) ?_
     | refine wpList_store_row rfl _ _ _ rfl (x2.heap.size + 1) #[.int .i64 e.t, .int .i64 e.k, .int .i64 e.a, .bool e.wr] rfl rfl 109 _ hE9 size_lev rfl (lev_one _ _ _ _) ?_)
    (try simp only [Act.put])
    go_upto_region 11 with fail
    obtain ⟨gs, hgs⟩ : ∃ gs, gs = x2.heap.size := ⟨_, rfl⟩
    obtain ⟨x3, hx3, HT3, HE3, HB3⟩ : ∃ Z9, Z9 = (((x2.alloc (.cells #[.slice none 0 0, .slice none 0 0, .slice none 0 0, .slice none 0 0] 77)).alloc (.cells #[.int .i64 0, .int .i64 0, .int .i64 0, .bool false] 109)).setRow x2.heap.size #[.slice (some ⟨h2.gw, 0, none⟩) l.wn h2.kw, .slice (some ⟨h2.gr, 0, none⟩) l.tn h2.kr, .slice (some ⟨h2.gp, 0, none⟩) l.tn h2.kp, .slice (some ⟨h2.gb, 0, none⟩) l.tn h2.kb]).setRow (x2.heap.size + 1) #[.int .i64 e.t, .int .i64 e.k, .int .i64 e.a, .bool e.wr] /\ Hid (Blk Z9 gs 77 (stL h2 l.tn l.wn)) /\ Hid (Blk Z9 (gs + 1) 109 [.int .i64 e.t, .int .i64 e.k, .int .i64 e.a, .bool e.wr]) /\ Hid (Below x2.heap.size x2 Z9) := by
     refine ⟨_, rfl, ?_, ?_, rowB (rowB (((Below.refl _ _).alloc (Nat.le_refl _) _).alloc (by simp) _) (Nat.le_refl _)) (by omega)⟩
     ·rw [hgs]
      exact Blk.kept (setRow_heap _ _ _ #[.slice (some ⟨h2.gw, 0, none⟩) l.wn h2.kw, .slice (some ⟨h2.gr, 0, none⟩) l.tn h2.kr, .slice (some ⟨h2.gp, 0, none⟩) l.tn h2.kp, .slice (some ⟨h2.gb, 0, none⟩) l.tn h2.kb] _ _ hT9) (rowK (by omega))
     ·rw [hgs]
      exact setRow_heap _ _ _ #[.int .i64 e.t, .int .i64 e.k, .int .i64 e.a, .bool e.wr] _ _ hE9
    rw [<- hx3, <- hgs]
    have HBx3 := Lh (HBx2.o.trans (HB3.o.mono HBx2.o.size))
    have HSt3 := Lh (HSt.o.on HB3.o)
    have hgsl : wr.heap.size <= gs := by rw [hgs]; exact HBx2.o.size
    have hg6l := HG0.o.lt
    clear hx3 hT9 hE9 HB3 HBx2 HSt hgs
    refine wp_region_lit ?_
    refine wpList_load_row rfl _ _ rfl gs rfl 77 _ (0, 0) _ HT3.o Tryz.underlying77 rfl size_lst ?_
    have hG3 := HG0.o.below HBx3.o HG0.o.lt
    go_upto_region 12 with (refine wpList_store_row rfl _ _ _ rfl g6 #[.slice (some ⟨h2.gw, 0, none⟩) l.wn h2.kw, .slice (some ⟨h2.gr, 0, none⟩) l.tn h2.kr, .slice (some ⟨h2.gp, 0, none⟩) l.tn h2.kp, .slice (some ⟨h2.gb, 0, none⟩) l.tn h2.kb] rfl rfl 77 _ hG3 size_lst rfl (lst_one _ _ _ _ _ _ _ _ _ _ _ _) ?_)
    (try simp only [Act.put])
    obtain ⟨x4, hx4, hstep, HE4⟩ : ∃ Z9, Z9 = x3.setRow g6 #[.slice (some ⟨h2.gw, 0, none⟩) l.wn h2.kw, .slice (some ⟨h2.gr, 0, none⟩) l.tn h2.kr, .slice (some ⟨h2.gp, 0, none⟩) l.tn h2.kp, .slice (some ⟨h2.gb, 0, none⟩) l.tn h2.kb] /\ Hid (Below w.heap.size w Z9 /\ Blk Z9 w.heap.size 25 (litL l) /\ Blk Z9 g6 77 (stL h2 l.tn l.wn) /\ StAt Z9 h2 l.tn l.wn (playS l us (j + 1)) /\ Z9.ownsRow w.heap.size 109 4 v (playE l us j).length (evVals (playE l us j))) /\ Hid (Blk Z9 (gs + 1) 109 [.int .i64 e.t, .int .i64 e.k, .int .i64 e.a, .bool e.wr]) := ⟨_, rfl, HJ.o.step HUe.o HBx3.o HNw.o HSt3.o, HE3.o.kept (rowK (by omega))⟩
    rw [<- hx4]
    have HNw2 := Lh (HNw.o.le HJ.o.bel.size)
    have HG6 := Lh HJ.o.g6
    clear hx4 hG3 HT3 HE3 HBx3 HSt3
    have HPe := Lh (playE_some HUe.o hev)
    have hen := playE_len l us j
    have y0 := HE4.o.cell (i := 0) rfl
    have y1 := HE4.o.cell (i := 1) rfl
    have y2 := HE4.o.cell (i := 2) rfl
    have y3 := HE4.o.cell (i := 3) rfl
    have hx4s := hstep.out.1.size
    go_wp2_with (at_builtin; go_must (refine wpList_app _ rfl _ _ 134 rfl w.heap.size 109 i1 (.agg #[.int .i64 0, .int .i64 0, .int .i64 0, .bool false]) 4 32 Tryz.underlying134 hi1 hi1z hi1s hi1b rfl (by decide) v (playE l us j).length _ rfl (hstep.out.2.2.2.2.alloc _) (x4.heap.size + 1) (some ⟨x4.heap.size, 0, none⟩) 1 1 (evL e) rfl (((Blk.new x4 109 _).sl rfl).up (by simp)) (evL_one e) ((playE l us j).length + 1) rfl _ rfl _ rfl (by simp only [maxLen]; omega) (by omega) (by rw [World.size_alloc]; omega) ?_; intro A7 k7 w7 hown7 hg7 hat7 hk7 hk8))
    have hgg := (World.grownBy_alloc x4 (.cells #[.int .i64 e.t, .int .i64 e.k, .int .i64 e.a, .bool e.wr] 109) v.ownBlock).trans hg7
    go_roundg (gk - 1)
    case measure => omega
    case rel =>
     obtain ⟨p1, p2, p3, p4, p5⟩ := hstep.out
     refine ⟨j + 1, .slice A7 ((playE l us j).length + 1) k7, by omega, by go_num, rfl, ⟨p1.grown hgg p1.size (fun q hq => (p5.lt q hq).1), p2.grown hgg (own_nb p5 p2 (by decide)), ⟨h2, HNw2.o, p3.grown hgg (own_nb p5 p3 (by decide)), p4.w.grown hgg (own_nr p5 p4.w (by decide)), p4.r.grown hgg (own_nr p5 p4.r (by decide)), p4.p.grown hgg (own_nr p5 p4.p (by decide)), p4.b.grown hgg (own_nr p5 p4.b (by decide)), p4.ne⟩, ?_, HG6.o⟩⟩
     rw [HPe.o, evVals_snoc, List.length_append]
     exact hown7
  ·obtain rfl : j = n := by omega
   obtain ⟨A9, k9, hv9, h91, h92⟩ := own_form HJ.o.ev
   subst hv9
   have hul := HUl.o
   go_wp2_with fail
   go_ret2
   refine HRes.o _ _ ⟨A9, k9, ?_, ?_, HJ.o.bel⟩
   ·rw [hul]
    rfl
   ·rw [hul]
    exact HJ.o.ev
end Go.Proofs.YtgjdgapfnfhklaaGreat
