/-
slices.Compare at numbers; tso.order. reclaimref19.Numbers a
-/
import Derived.Test.YtgjdgapfnfhklaaGreatZ23
import Derived.BigQuiet
import Derived.Sort.Grow
import Derived.Test.YtgjdgapfnfhklaaGreatZ25
import Derived.Test.YtgjdgapfnfhklaaGreatZ18
import Derived.Test.YtgjdgapfnfhklaaGreatZ8
import Derived.Test.YtgjdgapfnfhklaaGreatZ9
set_option linter.unusedSimpArgs false
set_option linter.unusedVariables false
set_option maxRecDepth 100000
set_option maxHeartbeats 16000000
namespace Go.Proofs.YtgjdgapfnfhklaaGreat
open Go.RowKit
def cmpL : List Int -> List Int -> Int
 | [], [] => 0
 | [], _ :: _ => -1
 | _ :: _, [] => 1
 | x :: a, y :: b => if x < y then -1 else if x > y then 1 else cmpL a b
theorem cmpL_self : ∀ a : List Int, cmpL a a = 0
 | [] => rfl
 | x :: a => by rw [cmpL, if_neg (by omega), if_neg (by omega), cmpL_self a]
theorem cmpL_zero : ∀ {a b : List Int}, cmpL a b = 0 -> a = b
 | [], [], _ => rfl
 | [], _ :: _, h => by simp [cmpL] at h
 | _ :: _, [], h => by simp [cmpL] at h
 | x :: a, y :: b, h => by
  rw [cmpL] at h
  split at h
  ·omega
  ·split at h
   ·omega
   ·rw [cmpL_zero h, show x = y by omega]
theorem cmpL_anti : ∀ a b : List Int, cmpL b a = - cmpL a b
 | [], [] => rfl
 | [], _ :: _ => rfl
 | _ :: _, [] => rfl
 | x :: a, y :: b => by
  rw [cmpL, cmpL]
  by_cases h1 : x < y
  ·rw [if_neg (by omega), if_pos (by omega), if_pos h1]; rfl
  ·by_cases h2 : y < x
   ·rw [if_pos (by omega), if_neg h1, if_pos (by omega)]
   ·rw [if_neg (by omega), if_neg (by omega), if_neg (by omega), if_neg (by omega), cmpL_anti a b]
theorem cmpL_trans : ∀ {a b c : List Int}, cmpL a b < 0 -> cmpL b c < 0 -> cmpL a c < 0
 | [], [], _, h, _ => by simp [cmpL] at h
 | [], _ :: _, [], _, h => by simp [cmpL] at h
 | [], _ :: _, _ :: _, _, _ => by simp [cmpL]
 | _ :: _, [], _, h, _ => by simp [cmpL] at h
 | _ :: _, _ :: _, [], _, h => by simp [cmpL] at h
 | x :: a, y :: b, z :: c, h, h2 => by
  rw [cmpL] at h h2 ⊢
  by_cases e1 : x < y
  ·by_cases e2 : y < z
   ·rw [if_pos (by omega)]; omega
   ·by_cases e3 : y > z
    ·rw [if_neg e2, if_pos e3] at h2; omega
    ·rw [if_pos (by omega)]; omega
  ·by_cases e1' : x > y
   ·rw [if_neg e1, if_pos e1'] at h; omega
   ·rw [if_neg e1, if_neg e1'] at h
    by_cases e2 : y < z
    ·rw [if_pos (by omega)]; omega
    ·by_cases e3 : y > z
     ·rw [if_neg e2, if_pos e3] at h2; omega
     ·rw [if_neg e2, if_neg e3] at h2
      rw [if_neg (by omega), if_neg (by omega)]
      exact cmpL_trans h h2
theorem cmpL_app : ∀ {a b : List Int} (c d : List Int), a.length = b.length -> cmpL (a ++ c) (b ++ d) = if cmpL a b = 0 then cmpL c d else cmpL a b
 | [], [], c, d, _ => by simp [cmpL]
 | [], _ :: _, _, _, h => by simp at h
 | _ :: _, [], _, _, h => by simp at h
 | x :: a, y :: b, c, d, h => by
  rw [List.cons_append, List.cons_append, cmpL, cmpL]
  by_cases h1 : x < y
  ·rw [if_pos h1, if_pos h1]; rfl
  ·by_cases h2 : x > y
   ·rw [if_neg h1, if_pos h2, if_neg h1, if_pos h2]; rfl
   ·rw [if_neg h1, if_neg h2, if_neg h1, if_neg h2]
    exact cmpL_app c d (by simpa using h)
def ordK (x y : List Int × List Int) : Int := cmpL (x.1 ++ x.2) (y.1 ++ y.2)
theorem isnan_any (x : Int) (w : World) : Calls Tryz.prog 106 #[.int .i64 x] w (fun e w' => e = .returned (.bool false) /\ w' = w) := by
 have e1 : (x != x) = false := by simp
 go_enter Tryz.func106, Tryz.ntmps106
 go_wp2_with fail
 go_ret
 exact ⟨rfl, rfl⟩
def cmpI (x y : Int) : Int := if x < y then -1 else if x > y then 1 else 0
theorem cmp_any (x y : Int) (w : World) : Calls Tryz.prog 96 #[.int .i64 x, .int .i64 y] w (fun e w' => e = .returned (.int .i64 (cmpI x y)) /\ w' = w) := by
 have HN := Lh isnan_any
 go_enter Tryz.func96, Tryz.ntmps96
 obtain ⟨z, hz⟩ : ∃ z, z = cmpI x y := ⟨_, rfl⟩
 rw [<- hz]
 have HZ := Lh hz
 clear hz
 by_cases h1 : x < y
 ·go_wp2_with (go_at_call 106; refine (HN.o _ _).mono ?_; rintro e w' ⟨rfl, rfl⟩)
  go_ret
  exact ⟨by rw [HZ.o]; unfold cmpI; rw [if_pos (by omega)]; rfl, rfl⟩
 ·by_cases h2 : x > y
  ·go_wp2_with (go_at_call 106; refine (HN.o _ _).mono ?_; rintro e w' ⟨rfl, rfl⟩)
   go_ret
   exact ⟨by rw [HZ.o]; unfold cmpI; rw [if_neg (by omega), if_pos (by omega)]; rfl, rfl⟩
  ·go_wp2_with (go_at_call 106; refine (HN.o _ _).mono ?_; rintro e w' ⟨rfl, rfl⟩)
   go_ret
   exact ⟨by rw [HZ.o]; unfold cmpI; rw [if_neg (by omega), if_neg (by omega)]; rfl, rfl⟩
theorem cmpS_any (A A' : Option Addr) (n n' k k' B : Nat) (xs ys : List Int) (w : World) (hm : n <= 1024) (h : Sl w B 1 A n (ints xs)) (h' : Sl w B 1 A' n' (ints ys)) :
  Calls Tryz.prog 65 #[.slice A n k, .slice A' n' k'] w (fun e w' => e = .returned (.int .i64 (cmpL xs ys)) /\ w' = w) := by
 have hn : xs.length = n := by have := h.1; rw [ints_len] at this; omega
 have hn' : ys.length = n' := by have := h'.1; rw [ints_len] at this; omega
 have HS := Lh h
 have HS' := Lh h'
 have HN := Lh hn
 have HN' := Lh hn'
 have HC := Lh cmp_any
 clear h h' hn hn'
 go_enter Tryz.func65, Tryz.ntmps65
 go_wp2_with fail
 go_loopg [11] n (fun gk i wr => ∃ j : Nat, i = .int .i64 j /\ j + gk = n /\ j <= n' /\ wr = w /\ Hid (cmpL xs ys = cmpL (xs.drop j) (ys.drop j)))
 case atStart => exact ⟨0, rfl, by omega, by omega, rfl, Lh (by rw [List.drop_zero, List.drop_zero])⟩
 case round =>
  obtain ⟨j, rfl, hj, hj', rfl, HE⟩ := hrel
  by_cases hlt : j < n
  ·obtain ⟨x, hx⟩ := at_lt (show j < xs.length by rw [HN.o]; exact hlt)
   obtain ⟨b, o, rfl, _, hc⟩ := HS.o.2 (by omega)
   have c0 := hc j _ (ints_get hx)
   have e1 : (j : Int) < n := by omega
   have e0 : (0 : Int) <= j := by omega
   have hxd : xs.drop j = x :: xs.drop (j + 1) := by
    obtain ⟨hj9, rfl⟩ := List.getElem?_eq_some_iff.1 hx
    exact List.drop_eq_getElem_cons hj9
   have HX := Lh hxd
   clear hc hx hxd
   by_cases hlt' : j < n'
   ·obtain ⟨y, hy⟩ := at_lt (show j < ys.length by rw [HN'.o]; exact hlt')
    obtain ⟨b', o', rfl, _, hc'⟩ := HS'.o.2 (by omega)
    have d0 := hc' j _ (ints_get hy)
    have e2 : (j : Int) < n' := by omega
    have e3 : ¬ (j : Int) ≥ n' := by omega
    have hyd : ys.drop j = y :: ys.drop (j + 1) := by
     obtain ⟨hj9, rfl⟩ := List.getElem?_eq_some_iff.1 hy
     exact List.drop_eq_getElem_cons hj9
    have HY := Lh hyd
    clear hc' hy hyd
    go_wp2_with fail
    refine (HC.o _ _ _).mono ?_
    rintro e w' ⟨rfl, rfl⟩
    obtain ⟨z, hz⟩ : ∃ z, z = cmpI x y := ⟨_, rfl⟩
    rw [<- hz]
    by_cases h1 : x < y
    ·obtain rfl : z = -1 := by rw [hz]; unfold cmpI; rw [if_pos h1]
     clear hz
     have f1 : ((-1 : Int) != 0) = true := rfl
     go_wp2_with fail
     go_ret
     refine ⟨?_, rfl⟩
     rw [HE.o, HX.o, HY.o, cmpL, if_pos (by omega)]; rfl
    ·by_cases h2 : x > y
     ·obtain rfl : z = 1 := by rw [hz]; unfold cmpI; rw [if_neg h1, if_pos h2]
      clear hz
      have f1 : ((1 : Int) != 0) = true := rfl
      go_wp2_with fail
      go_ret
      refine ⟨?_, rfl⟩
      rw [HE.o, HX.o, HY.o, cmpL, if_neg (by omega), if_pos (by omega)]; rfl
     ·obtain rfl : z = 0 := by rw [hz]; unfold cmpI; rw [if_neg h1, if_neg h2]
      clear hz
      have f1 : ((0 : Int) != 0) = false := rfl
      go_wp2_with fail
      go_roundg (gk - 1)
      case measure => omega
      case rel => exact ⟨j + 1, by go_num, by omega, by omega, rfl, Lh (by rw [HE.o, HX.o, HY.o, cmpL, if_neg (by omega), if_neg (by omega)])⟩
   ·have e3 : (j : Int) ≥ n' := by omega
    go_wp2_with fail
    go_ret
    refine ⟨?_, rfl⟩
    rw [HE.o, HX.o, show ys.drop j = [] from List.drop_eq_nil_of_le (by rw [HN'.o]; omega), cmpL]
    rfl
  ·obtain rfl : j = n := by omega
   by_cases hlt' : j < n'
   ·have e2 : (j : Int) < n' := by omega
    go_wp2_with fail
    go_ret
    refine ⟨?_, rfl⟩
    have hl : 0 < (ys.drop j).length := by rw [List.length_drop, HN'.o]; omega
    rw [HE.o, show xs.drop j = [] from List.drop_eq_nil_of_le (by rw [HN.o]; omega)]
    cases hd : ys.drop j with
    | nil => rw [hd] at hl; simp at hl
    | cons y t => rfl
   ·have e2 : ¬ (j : Int) < n' := by omega
    go_wp2_with fail
    go_ret
    refine ⟨?_, rfl⟩
    rw [HE.o, show xs.drop j = [] from List.drop_eq_nil_of_le (by rw [HN.o]; omega), show ys.drop j = [] from List.drop_eq_nil_of_le (by rw [HN'.o]; omega)]
    rfl
structure FE where
 gw : Nat
 kw : Nat
 gr : Nat
 kr : Nat
 ws : List Int
 rs : List Int
def FE.k (x : FE) : List Int × List Int := (x.ws, x.rs)
def FE.cs (n nw : Nat) (x : FE) : List Value := [.slice (some ⟨x.gw, 0, none⟩) nw x.kw, .slice (some ⟨x.gr, 0, none⟩) n x.kr]
structure FeAt (W : World) (n nw : Nat) (x : FE) : Prop where
 w : Rw W x.gw 3 1 nw x.kw (ints x.ws)
 r : Rw W x.gr 96 4 n x.kr (ints x.rs)
theorem FeAt.on {W W' : World} {n nw : Nat} {x : FE} (h : FeAt W n nw x) (hb : Below W.heap.size W W') : FeAt W' n nw x := ⟨h.w.on hb, h.r.on hb⟩
theorem Rw.sl4 {W : World} {g n k t : Nat} {T : TypeId} {zs : List Int} (h : Rw W g T 4 n k (ints zs)) (ht : t < n) : Sl W W.heap.size 1 (some ⟨g, t * 4, none⟩) 4 (ints ((zs.drop (t * 4)).take 4)) := by
 have hl := h.1
 rw [ints_len] at hl
 refine ⟨by rw [ints_len, List.length_take, List.length_drop]; omega, fun _ => ⟨g, t * 4, rfl, h.lt, fun j u hu => ?_⟩⟩
 have hj := (List.getElem?_eq_some_iff.1 hu).1
 rw [ints_len, List.length_take] at hj
 refine h.cell ?_
 unfold ints at hu ⊢
 rw [List.getElem?_map, List.getElem?_take_of_lt (by omega), List.getElem?_drop] at hu
 rw [List.getElem?_map]
 exact hu
theorem drop4 {zs : List Int} {t : Nat} : zs.drop (t * 4) = (zs.drop (t * 4)).take 4 ++ zs.drop ((t + 1) * 4) := by
 rw [show (t + 1) * 4 = t * 4 + 4 by omega, <- List.drop_drop, List.take_append_drop]
theorem order_any (n nw : Nat) (x y : FE) (w : World) (hx : FeAt w n nw x) (hy : FeAt w n nw y) (hn : n <= 4) (hw : nw <= 6) :
  Calls Tryz.prog 32 #[.agg #[.slice (some ⟨x.gw, 0, none⟩) nw x.kw, .slice (some ⟨x.gr, 0, none⟩) n x.kr], .agg #[.slice (some ⟨y.gw, 0, none⟩) nw y.kw, .slice (some ⟨y.gr, 0, none⟩) n y.kr]] w (fun e w' => e = .returned (.int .i64 (ordK x.k y.k)) /\ ∃ q os', w' = Sort.grow (w.drewN q) os') := by
 have HX := Lh hx
 have HY := Lh hy
 have HW0 : Hid (Below w.heap.size w ((w.alloc (.cells #[.slice (some ⟨x.gw, 0, none⟩) nw x.kw, .slice (some ⟨x.gr, 0, none⟩) n x.kr] 42)).alloc (.cells #[.slice (some ⟨y.gw, 0, none⟩) nw y.kw, .slice (some ⟨y.gr, 0, none⟩) n y.kr] 42))) := ((Below.refl _ _).alloc (Nat.le_refl _) _).alloc (by simp) _
 have HA0 : Hid (Blk ((w.alloc (.cells #[.slice (some ⟨x.gw, 0, none⟩) nw x.kw, .slice (some ⟨x.gr, 0, none⟩) n x.kr] 42)).alloc (.cells #[.slice (some ⟨y.gw, 0, none⟩) nw y.kw, .slice (some ⟨y.gr, 0, none⟩) n y.kr] 42)) w.heap.size 42 (FE.cs n nw x)) := (Blk.new w 42 (FE.cs n nw x)).alloc _
 have HC0 : Hid (Blk ((w.alloc (.cells #[.slice (some ⟨x.gw, 0, none⟩) nw x.kw, .slice (some ⟨x.gr, 0, none⟩) n x.kr] 42)).alloc (.cells #[.slice (some ⟨y.gw, 0, none⟩) nw y.kw, .slice (some ⟨y.gr, 0, none⟩) n y.kr] 42)) (w.heap.size + 1) 42 (FE.cs n nw y)) := by
  have h9 := Blk.new (w.alloc (.cells #[.slice (some ⟨x.gw, 0, none⟩) nw x.kw, .slice (some ⟨x.gr, 0, none⟩) n x.kr] 42)) 42 (FE.cs n nw y)
  rw [World.size_alloc] at h9
  exact h9
 have HG : Hid (∀ q, ((w.alloc (.cells #[.slice (some ⟨x.gw, 0, none⟩) nw x.kw, .slice (some ⟨x.gr, 0, none⟩) n x.kr] 42)).alloc (.cells #[.slice (some ⟨y.gw, 0, none⟩) nw y.kw, .slice (some ⟨y.gr, 0, none⟩) n y.kr] 42)).drewN q = Sort.grow (w.drewN q) (#[.cells #[.slice (some ⟨x.gw, 0, none⟩) nw x.kw, .slice (some ⟨x.gr, 0, none⟩) n x.kr] 42] ++ #[.cells #[.slice (some ⟨y.gw, 0, none⟩) nw y.kw, .slice (some ⟨y.gr, 0, none⟩) n y.kr] 42])) := Lh fun q => by
  rw [Sort.alloc_eq_grow, Sort.alloc_eq_grow, Sort.grow_grow]
  rfl
 obtain ⟨r, hr⟩ : ∃ r, r = ordK x.k y.k := ⟨_, rfl⟩
 rw [<- hr]
 have HRr := Lh hr
 clear hx hy hr
 go_enter Tryz.func32, Tryz.ntmps32
 go_upto_region 1 with fail
 generalize (w.alloc (.cells #[.slice (some ⟨x.gw, 0, none⟩) nw x.kw, .slice (some ⟨x.gr, 0, none⟩) n x.kr] 42)).alloc (.cells #[.slice (some ⟨y.gw, 0, none⟩) nw y.kw, .slice (some ⟨y.gr, 0, none⟩) n y.kr] 42) = w0 at HW0 HA0 HC0 HG ⊢
 have a0 := HA0.o.cell (i := 0) rfl
 have a1 := HA0.o.cell (i := 1) rfl
 have b0 := HC0.o.cell (i := 0) rfl
 have b1 := HC0.o.cell (i := 1) rfl
 have HX0 := Lh (HX.o.on HW0.o)
 have HY0 := Lh (HY.o.on HW0.o)
 have HlW : Hid (x.ws.length = y.ws.length) := Lh (by
  have h1 := HX.o.w.1
  have h2 := HY.o.w.1
  rw [ints_len] at h1 h2
  omega)
 have HlR : Hid (x.rs.length = n * 4 /\ y.rs.length = n * 4) := Lh (by
  have h1 := HX.o.r.1
  have h2 := HY.o.r.1
  rw [ints_len] at h1 h2
  exact ⟨h1, h2⟩)
 clear HX HY HW0 HA0 HC0
 have HO : Hid (r = if cmpL x.ws y.ws = 0 then cmpL x.rs y.rs else cmpL x.ws y.ws) := Lh (HRr.o.trans (cmpL_app x.rs y.rs HlW.o))
 go_wp2_with fail
 refine (cmpS_any _ _ nw nw _ _ w0.heap.size x.ws y.ws w0 (by omega) HX0.o.w.sl HY0.o.w.sl).mono ?_
 rintro e w1 ⟨rfl, rfl⟩
 obtain ⟨z, hz⟩ : ∃ z, z = cmpL x.ws y.ws := ⟨_, rfl⟩
 rw [<- hz] at HO ⊢
 clear hz
 by_cases h0 : z = 0
 ·have e0 : (z != 0) = false := by simp [h0]
  have HO' : Hid (r = cmpL x.rs y.rs) := Lh (by have h9 := HO.o; rw [if_pos h0] at h9; exact h9)
  clear HO
  subst h0
  go_wp2_with fail
  go_loopg [19] n (fun gk i wr => ∃ t q : Nat, i = .int .i64 t /\ t + gk = n /\ Hid (wr = w1.drewN q) /\ Hid (r = cmpL (x.rs.drop (t * 4)) (y.rs.drop (t * 4))))
  case atStart => exact ⟨0, 0, rfl, by omega, Lh rfl, HO'⟩
  case round =>
   obtain ⟨t, q, rfl, htn, HWr, HE⟩ := hrel
   have c1 : wr.cell? ⟨w.heap.size, 1, none⟩ = some (.slice (some ⟨x.gr, 0, none⟩) n x.kr) := by rw [HWr.o]; exact a1
   have c2 : wr.cell? ⟨w.heap.size + 1, 1, none⟩ = some (.slice (some ⟨y.gr, 0, none⟩) n y.kr) := by rw [HWr.o]; exact b1
   by_cases hlt : t < n
   ·have e1 : (t : Int) < n := by omega
    have e2 : (0 : Int) <= t := by omega
    obtain ⟨z, hz⟩ : ∃ z, z = cmpL ((x.rs.drop (t * 4)).take 4) ((y.rs.drop (t * 4)).take 4) := ⟨_, rfl⟩
    have HC : Hid (∀ k k' m, Calls Tryz.prog 65 #[.slice (some ⟨x.gr, t * 4, none⟩) 4 k, .slice (some ⟨y.gr, t * 4, none⟩) 4 k'] (wr.drewN m) (fun e w' => e = .returned (.int .i64 z) /\ w' = wr.drewN m)) := Lh fun k k' m => by
     rw [hz, HWr.o]
     exact cmpS_any _ _ 4 4 _ _ w1.heap.size _ _ _ (by omega) (HX0.o.r.sl4 hlt) (HY0.o.r.sl4 hlt)
    have HE2 : Hid (r = if z = 0 then cmpL (x.rs.drop ((t + 1) * 4)) (y.rs.drop ((t + 1) * 4)) else z) := Lh (by
     obtain ⟨l1, l2⟩ := HlR.o
     rw [HE.o, drop4 (zs := x.rs), drop4 (zs := y.rs), cmpL_app _ _ (by rw [List.length_take, List.length_take, List.length_drop, List.length_drop]; omega), <- hz])
    clear hz HE
    go_upto_region 7 with fail
    go_quiet (first | (go_at_call 65; refine Calls.quiet_of_same (HC.o _ _ _)))
    by_cases h0 : z = 0
    ·have e3 : (z != 0) = false := by simp [h0]
     go_wp2_with fail
     go_roundg (gk - 1)
     case measure => omega
     case rel => exact ⟨t + 1, q + nq, by go_num, by omega, Lh (by rw [HWr.o, World.drewN_drewN]), Lh (by rw [HE2.o, if_pos h0])⟩
    ·have e3 : (z != 0) = true := by simp [h0]
     go_wp2_with fail
     go_ret
     exact ⟨by rw [HE2.o, if_neg h0]; rfl, q + nq, _, by rw [HWr.o, World.drewN_drewN]; exact HG.o _⟩
   ·obtain rfl : t = n := by omega
    go_wp2_with fail
    go_ret
    refine ⟨?_, q, _, by rw [HWr.o]; exact HG.o _⟩
    obtain ⟨l1, l2⟩ := HlR.o
    rw [HE.o, List.drop_eq_nil_of_le (by omega), show y.rs.drop (t * 4) = [] from List.drop_eq_nil_of_le (by omega)]
    rfl
 ·have e0 : (z != 0) = true := by simp [h0]
  go_wp2_with fail
  go_ret
  exact ⟨by have h9 := HO.o; rw [if_neg h0] at h9; rw [h9]; rfl, 0, _, HG.o 0⟩
end Go.Proofs.YtgjdgapfnfhklaaGreat
namespace Go.Proofs.YtgjdgapfnfhklaaGreat
open Go.RowKit
def nxtH (listed : Array Bool) : Option Nat := listed.toList.findIdx? (· == false)
section
variable {P : Program} {md : Region.Mode} {ops : Array Oper} {Q : Exit -> Act -> World -> Prop} {S : World -> Prop}
theorem tkN {i : Nat} {oi : Oper} {v : Value} {fuel : Nat} {listed : Array Bool} {a : Act} {w : World} (hy : ∀ W, S W -> (execOp a.eval oi).run P W = .ok (.value v) W) (h : wpAnyH P md ops Q S fuel (listed.setIfInBounds i true) (a.put oi.dst v) w) (hn : nxtH listed = some i := by rfl) (hi : ops[i]? = some oi := by rfl)
  (hw : Region.wanted oi (yielded ops a.tmps) = true := by rfl) (hs : Region.noSelect ops = true := by kernel_rfl) (hf : Region.free md ops listed i = true := by kernel_rfl) (hr : (Region.ready md ops listed).contains i = true := by kernel_rfl)
  (hQ : ∀ c a w, Q (.panic c) (a.put oi.dst v) w -> Q (.panic c) a w := by exact fun _ _ _ h => h) (hS : S w := by assumption) : wpAnyH P md ops Q S (fuel + 1) listed a w :=
 wpAnyH_take hi hs hf hr hQ (Or.inl ⟨hw, hy⟩) hS h
end
def numAt (x : FE) (j : Nat) : List Int := x.ws ++ x.rs.take (j * 4)
theorem numAt_len {x : FE} {n nw : Nat} (h1 : x.ws.length = nw) (h2 : x.rs.length = n * 4) (j : Nat) (hj : j <= n) : (numAt x j).length = nw + 4 * j := by
 unfold numAt
 rw [List.length_append, List.length_take]
 omega
theorem numAt_next {x : FE} {n j : Nat} (h2 : x.rs.length = n * 4) (hj : j < n) : ints (numAt x (j + 1)) = ints (numAt x j) ++ [.int .i64 (x.rs.getD (j * 4) 0), .int .i64 (x.rs.getD (j * 4 + 1) 0), .int .i64 (x.rs.getD (j * 4 + 2) 0), .int .i64 (x.rs.getD (j * 4 + 3) 0)] := by
 have h : x.rs.take ((j + 1) * 4) = x.rs.take (j * 4) ++ [x.rs.getD (j * 4) 0, x.rs.getD (j * 4 + 1) 0, x.rs.getD (j * 4 + 2) 0, x.rs.getD (j * 4 + 3) 0] := by
  have g : ∀ i, i < n * 4 -> x.rs.take (i + 1) = x.rs.take i ++ [x.rs.getD i 0] := fun i hi => by
   rw [List.take_add_one, List.getD_eq_getElem?_getD, List.getElem?_eq_getElem (by omega)]
   rfl
  rw [show (j + 1) * 4 = j * 4 + 3 + 1 by omega, g _ (by omega), g _ (by omega), g _ (by omega), g _ (by omega)]
  simp
 unfold numAt
 rw [h]
 simp [ints]
theorem row_one4 (a b c d : Int) : ∀ u ∈ [Value.int .i64 a, .int .i64 b, .int .i64 c, .int .i64 d], u.oneCell' = true := by
 intro u hu
 simp at hu
 rcases hu with rfl | rfl | rfl | rfl <;> rfl
theorem num19_any (n nw : Nat) (x : FE) (w : World) (hx : FeAt w n nw x) (hn : n <= 4) (hnw : nw <= 6) :
  Calls Tryz.prog 33 #[.agg #[.slice (some ⟨x.gw, 0, none⟩) nw x.kw, .slice (some ⟨x.gr, 0, none⟩) n x.kr]] w (FltR (numAt x n) w) := by
 obtain ⟨w0, hw0⟩ : ∃ w0 : World, w0 = w.alloc (.cells #[.slice (some ⟨x.gw, 0, none⟩) nw x.kw, .slice (some ⟨x.gr, 0, none⟩) n x.kr] 42) := ⟨_, rfl⟩
 have HZ0 : Hid (Blk w0 w.heap.size 42 (FE.cs n nw x)) := by rw [hw0]; exact Lh (Blk.new w 42 (FE.cs n nw x))
 have HW0 : Hid (Below w.heap.size w w0) := by rw [hw0]; exact Lh ((Below.refl _ _).alloc (Nat.le_refl _) _)
 have HX0 := Lh (hx.on HW0.o)
 have HWe := Lh hw0
 have hwl : x.ws.length = nw := by have h9 := hx.w.1; rw [ints_len] at h9; omega
 have hrl : x.rs.length = n * 4 := by have h9 := hx.r.1; rw [ints_len] at h9; exact h9
 have HL := Lh (numAt_len hwl hrl n (Nat.le_refl _))
 have HRl := Lh hrl
 have hz0 : w.heap.size < w0.heap.size := HZ0.o.lt
 obtain ⟨ii, hii, hiiz, hiis, hiib⟩ := info_parts info_iF
 clear hx hw0 hwl hrl
 go_enter Tryz.func33, Tryz.ntmps33
 go_upto_region 1 with fail
 rw [<- HWe.o]
 clear HWe
 have c0 := HZ0.o.cell (i := 0) rfl
 go_upto_region 3 with (at_builtin; go_must (refine wpList_app _ rfl _ _ 22 rfl w0.heap.size 3 ii (.int .i64 0) 1 8 Tryz.underlying22 hii hiiz hiis hiib rfl (by decide) (.slice none 0 0) 0 [] rfl (World.ownsRow_nil _ _ _ _) w0.heap.size (some ⟨x.gw, 0, none⟩) nw x.kw (ints x.ws) rfl HX0.o.w.sl ints_oneI (nw + 4 * 0) (by omega) (ints (numAt x 0)) (by simp [numAt]) _ rfl (by simp only [maxLen]; omega) (by omega) (Nat.le_refl _) ?_; intro A0 k0 w1 hown hg hat hk7 hk8))
 have HO1 := Lh hown
 have HB1 : Hid (Below w0.heap.size w0 w1) := Lh ((Below.refl _ _).grown hg (Nat.le_refl _) (fun q hq => by cases hq))
 clear hown hg hat c0
 go_wp2_with fail
 go_loopg [3, 4] n (fun gk v i wr => ∃ (j : Nat) (v9 : Value), j + gk = n /\ i = .int .i64 j /\ v = v9 /\ Hid (wr.ownsRow w0.heap.size 3 1 v9 (nw + 4 * j) (ints (numAt x j))) /\ Hid (Below w0.heap.size w0 wr))
 case atStart => exact ⟨0, _, by omega, rfl, rfl, HO1, HB1⟩
 case round =>
  obtain ⟨j, v, hj, rfl, hv9, HO, HB⟩ := hrel
  subst hv9
  have c1 := (HZ0.o.below HB.o HZ0.o.lt).cell (i := 1) rfl
  by_cases hlt : j < n
  ·have e1 : (j : Int) < n := by omega
   have e0 : (0 : Int) <= j := by omega
   have HSo : Hid (∀ W, Below w0.heap.size w0 W -> W.cell? ⟨w.heap.size, 1, none⟩ = some (.slice (some ⟨x.gr, 0, none⟩) n x.kr) /\ W.cell? ⟨x.gr, j * 4, none⟩ = some (.int .i64 (x.rs.getD (j * 4) 0)) /\ W.cell? ⟨x.gr, j * 4 + 1, none⟩ = some (.int .i64 (x.rs.getD (j * 4 + 1) 0)) /\ W.cell? ⟨x.gr, j * 4 + 2, none⟩ = some (.int .i64 (x.rs.getD (j * 4 + 2) 0)) /\ W.cell? ⟨x.gr, j * 4 + 3, none⟩ = some (.int .i64 (x.rs.getD (j * 4 + 3) 0))) := Lh fun W hW => by
    have hs := HX0.o.on hW
    have hz := HZ0.o.below hW HZ0.o.lt
    have hr : ∀ q, q < n * 4 -> W.cell? ⟨x.gr, q, none⟩ = some (.int .i64 (x.rs.getD q 0)) := fun q hq => hs.r.cell (ints_get (by rw [List.getD_eq_getElem?_getD, List.getElem?_eq_getElem (by rw [HRl.o]; exact hq)]; rfl))
    exact ⟨hz.cell rfl, hr _ (by omega), hr _ (by omega), hr _ (by omega), hr _ (by omega)⟩
   obtain ⟨A, k, hv, hk1, hk2⟩ := own_form HO.o
   subst hv
   have HNx := Lh (numAt_next HRl.o hlt)
   obtain ⟨a0, ha0⟩ : ∃ z, z = x.rs.getD (j * 4) 0 := ⟨_, rfl⟩
   obtain ⟨a1, ha1⟩ : ∃ z, z = x.rs.getD (j * 4 + 1) 0 := ⟨_, rfl⟩
   obtain ⟨a2, ha2⟩ : ∃ z, z = x.rs.getD (j * 4 + 2) 0 := ⟨_, rfl⟩
   obtain ⟨a3, ha3⟩ : ∃ z, z = x.rs.getD (j * 4 + 3) 0 := ⟨_, rfl⟩
   rw [<- ha0, <- ha1, <- ha2, <- ha3] at HSo HNx
   clear ha0 ha1 ha2 ha3
   go_upto_region 6 with fail
   clear c1
   refine wp_region_held_drew (S := fun W => W.cell? ⟨w.heap.size, 1, none⟩ = some (.slice (some ⟨x.gr, 0, none⟩) n x.kr) /\ W.cell? ⟨x.gr, j * 4, none⟩ = some (.int .i64 a0) /\ W.cell? ⟨x.gr, j * 4 + 1, none⟩ = some (.int .i64 a1) /\ W.cell? ⟨x.gr, j * 4 + 2, none⟩ = some (.int .i64 a2) /\ W.cell? ⟨x.gr, j * 4 + 3, none⟩ = some (.int .i64 a3)) (by kernel_rfl) (HSo.o _ HB.o.drew) (fun hS => ?_)
   iterate 25 (refine tkN (v := ?_) ?_ ?_; rotate_left; · (intro W hSw; (try dsimp only at hSw); go_simp; try with_reducible rfl); try simp only [Act.put, List.setIfInBounds_toArray, List.set_cons_zero, List.set_cons_succ])
   have HVb := Lh HB.o.drew
   have HVo : Hid (wr.drew.ownsRow w0.heap.size 3 1 (.slice A (nw + 4 * j) k) (nw + 4 * j) (ints (numAt x j))) := Lh (HO.o.below ((Below.refl _ _).drew))
   obtain ⟨V, hV⟩ : ∃ V, V = wr.drew := ⟨_, rfl⟩
   rw [<- hV] at HVb HVo ⊢
   clear hV
   refine rd 25 fun K1 hK1 => ?_
   go_simp
   have hbA := HVb.o.alloc HVb.o.size (.cells #[.int .i64 a0, .int .i64 a1, .int .i64 a2, .int .i64 a3] 3)
   refine hK1.out _ _ (HSo.o _ hbA) (fun _ => ?_)
   refine rd1 26 fun K2 hK2 => ?_
   refine step_app _ (by rfl) _ _ 22 (by rfl) w0.heap.size 3 ii (.int .i64 0) 1 8 Tryz.underlying22 hii hiiz hiis hiib rfl (by decide) (.slice A (nw + 4 * j) k) (nw + 4 * j) (ints (numAt x j)) (by rfl) (HVo.o.alloc _) (V.heap.size + 1) (some ⟨V.heap.size, 0, none⟩) 4 4 [.int .i64 a0, .int .i64 a1, .int .i64 a2, .int .i64 a3] (by rfl) (((Blk.new V 3 _).sl rfl).up (by simp)) (row_one4 _ _ _ _) (nw + 4 * (j + 1)) (by omega) _ rfl _ rfl (by simp only [maxLen]; omega) (by omega) (by have := HVb.o.size; rw [World.size_alloc]; omega) ?_
   intro A9 k9 W9 hown9 hg9 hat9 hk91 hk92
   have hbB : Below w0.heap.size w0 W9 := hbA.grown hg9 hbA.size (fun q hq => (HVo.o.lt q hq).1)
   refine hK2.out _ _ (HSo.o _ hbB) (fun hS4 => ?_)
   refine tkN (v := ?_) ?_ ?_
   rotate_left
   ·(intro W hSw; (try dsimp only at hSw); go_simp; try with_reducible rfl)
   try simp only [Act.put, List.setIfInBounds_toArray, List.set_cons_zero, List.set_cons_succ]
   refine wpAnyH_done (by kernel_rfl) ?_ _
   have HO9 : Hid (W9.ownsRow w0.heap.size 3 1 (.slice A9 (nw + 4 * (j + 1)) k9) (nw + 4 * (j + 1)) (ints (numAt x (j + 1)))) := by rw [HNx.o]; exact Lh hown9
   have HB9 := Lh hbB
   clear hS4 hbB hbA hown9 hg9 hat9 hS HSo HVo HVb HO HB
   go_wp2_with fail
   go_roundg (gk - 1)
   case measure => omega
   case rel => exact ⟨j + 1, _, by omega, by go_num, rfl, HO9, HB9⟩
  ·obtain rfl : j = n := by omega
   obtain ⟨A, k, hv, hk1, hk2⟩ := own_form HO.o
   subst hv
   go_wp2_with fail
   go_ret
   refine ⟨A, k, congrArg (fun N => Ending.returned (Value.slice A N k)) HL.o.symm, ?_, HW0.o.trans (HB.o.mono HW0.o.size)⟩
   rw [HL.o]
   exact own_lowF HO.o HW0.o.size
theorem same19_any (n nw : Nat) (x y : FE) (w : World) (hx : FeAt w n nw x) (hy : FeAt w n nw y) (he : x.k = y.k) (hn : n <= 4) (hnw : nw <= 6) :
  Calls Tryz.prog 11 #[.agg #[.slice (some ⟨x.gw, 0, none⟩) nw x.kw, .slice (some ⟨x.gr, 0, none⟩) n x.kr], .agg #[.slice (some ⟨y.gw, 0, none⟩) nw y.kw, .slice (some ⟨y.gr, 0, none⟩) n y.kr]] w (BoolR true w) := by
 have HX := Lh hx
 have HY := Lh hy
 obtain ⟨L, hL⟩ : ∃ L, L = numAt x n := ⟨_, rfl⟩
 have HLx := Lh hL
 have HLy : Hid (L = numAt y n) := Lh (by
  have e1 : x.ws = y.ws := congrArg Prod.fst he
  have e2 : x.rs = y.rs := congrArg Prod.snd he
  rw [hL]; unfold numAt; rw [e1, e2])
 have HLm : Hid (L.length <= 22) := Lh (by
  have h1 := hx.w.1
  rw [ints_len] at h1
  have h2 := hx.r.1
  rw [ints_len] at h2
  rw [hL, numAt_len (by omega) h2 n (Nat.le_refl _)]
  omega)
 have HW0 : Hid (Below w.heap.size w ((w.alloc (.cells #[.slice (some ⟨x.gw, 0, none⟩) nw x.kw, .slice (some ⟨x.gr, 0, none⟩) n x.kr] 42)).alloc (.cells #[.slice (some ⟨y.gw, 0, none⟩) nw y.kw, .slice (some ⟨y.gr, 0, none⟩) n y.kr] 42))) := ((Below.refl _ _).alloc (Nat.le_refl _) _).alloc (by simp) _
 have HA0 : Hid (Blk ((w.alloc (.cells #[.slice (some ⟨x.gw, 0, none⟩) nw x.kw, .slice (some ⟨x.gr, 0, none⟩) n x.kr] 42)).alloc (.cells #[.slice (some ⟨y.gw, 0, none⟩) nw y.kw, .slice (some ⟨y.gr, 0, none⟩) n y.kr] 42)) w.heap.size 42 (FE.cs n nw x)) := (Blk.new w 42 (FE.cs n nw x)).alloc _
 have HC0 : Hid (Blk ((w.alloc (.cells #[.slice (some ⟨x.gw, 0, none⟩) nw x.kw, .slice (some ⟨x.gr, 0, none⟩) n x.kr] 42)).alloc (.cells #[.slice (some ⟨y.gw, 0, none⟩) nw y.kw, .slice (some ⟨y.gr, 0, none⟩) n y.kr] 42)) (w.heap.size + 1) 42 (FE.cs n nw y)) := by
  have h9 := Blk.new (w.alloc (.cells #[.slice (some ⟨x.gw, 0, none⟩) nw x.kw, .slice (some ⟨x.gr, 0, none⟩) n x.kr] 42)) 42 (FE.cs n nw y)
  rw [World.size_alloc] at h9
  exact h9
 clear hx hy he hL
 go_enter Tryz.func11, Tryz.ntmps11
 go_upto_region 1 with fail
 generalize (w.alloc (.cells #[.slice (some ⟨x.gw, 0, none⟩) nw x.kw, .slice (some ⟨x.gr, 0, none⟩) n x.kr] 42)).alloc (.cells #[.slice (some ⟨y.gw, 0, none⟩) nw y.kw, .slice (some ⟨y.gr, 0, none⟩) n y.kr] 42) = w0 at HW0 HA0 HC0 ⊢
 have a0 := HA0.o.cell (i := 0) rfl
 have a1 := HA0.o.cell (i := 1) rfl
 go_wp2_with fail
 refine (num19_any n nw x w0 (HX.o.on HW0.o) hn hnw).mono ?_
 rintro e w1 ⟨A1, k1, rfl, ho1, hb1⟩
 rw [<- HLx.o] at ho1 ⊢
 have HO1 := Lh ho1
 have HW1 := Lh (HW0.o.trans (hb1.mono HW0.o.size))
 have HA1 := Lh (HA0.o.below hb1 HA0.o.lt)
 have HC1 := Lh (HC0.o.below hb1 HC0.o.lt)
 clear ho1 hb1 a0 a1 HA0 HC0 HW0
 have b0 := HC1.o.cell (i := 0) rfl
 have b1 := HC1.o.cell (i := 1) rfl
 go_wp2_with fail
 refine (num19_any n nw y w1 (HY.o.on HW1.o) hn hnw).mono ?_
 rintro e w2 ⟨A2, k2, rfl, ho2, hb2⟩
 rw [<- HLy.o] at ho2 ⊢
 have HO2 := Lh ho2
 have HO12 := Lh (HO1.o.below hb2)
 have HW2 := Lh (HW1.o.trans (hb2.mono HW1.o.size))
 have HA2 := Lh (HA1.o.below hb2 HA1.o.lt)
 have HC2 := Lh (HC1.o.below hb2 HC1.o.lt)
 clear ho2 hb2 b0 b1 HA1 HC1 HW1
 have a0 := HA2.o.cell (i := 0) rfl
 have a1 := HA2.o.cell (i := 1) rfl
 have b0 := HC2.o.cell (i := 0) rfl
 have b1 := HC2.o.cell (i := 1) rfl
 have e1 : ((nw : Int) == nw) = true := by simp
 have e2 : ((n : Int) == n) = true := by simp
 have HL1 : Hid (∀ W, Below w2.heap.size w2 W -> Calls Tryz.prog 34 #[.slice A1 L.length k1, .slice A2 L.length k2] W (BoolR false W)) := Lh fun W hW => by
  have h9 := less_any L L A1 A2 L.length L.length k1 k2 W (((Sl.of_own HO12.o).below hW).up hW.size) (((Sl.of_own HO2.o).below hW).up hW.size) (by have := HLm.o; simp only [maxLen]; omega) (by have := HLm.o; simp only [maxLen]; omega)
  rwa [lessL_self] at h9
 have HL2 : Hid (∀ W, Below w2.heap.size w2 W -> Calls Tryz.prog 34 #[.slice A2 L.length k2, .slice A1 L.length k1] W (BoolR false W)) := Lh fun W hW => by
  have h9 := less_any L L A2 A1 L.length L.length k2 k1 W (((Sl.of_own HO2.o).below hW).up hW.size) (((Sl.of_own HO12.o).below hW).up hW.size) (by have := HLm.o; simp only [maxLen]; omega) (by have := HLm.o; simp only [maxLen]; omega)
  rwa [lessL_self] at h9
 go_wp2_with fail
 refine (HL1.o w2 (Below.refl _ _)).mono ?_
 rintro e w3 ⟨rfl, hb3⟩
 go_wp2_with fail
 refine (HL2.o w3 hb3).mono ?_
 rintro e w4 ⟨rfl, hb4⟩
 go_wp2_with fail
 go_ret
 exact ⟨rfl, HW2.o.trans ((hb3.trans (hb4.mono hb3.size)).mono HW2.o.size)⟩
end Go.Proofs.YtgjdgapfnfhklaaGreat
