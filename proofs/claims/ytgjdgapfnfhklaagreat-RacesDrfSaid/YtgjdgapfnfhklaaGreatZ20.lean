/-
api.Litmus as plain data, and as it lies in memory; which ma
-/
import Derived.Test.YtgjdgapfnfhklaaGreatZ0
import Derived.Deep.LoopGhost
import Derived.Deep.Light
import Derived.Lib.Hide
import Derived.BigQuiet
import Derived.Deep.QuietTactic
import Derived.Test.YtgjdgapfnfhklaaGreatZ1
set_option linter.unusedSimpArgs false
set_option linter.unusedVariables false
set_option maxRecDepth 100000
set_option maxHeartbeats 8000000
namespace Go.Proofs.YtgjdgapfnfhklaaGreat
open Go.RowKit
structure Ins where
 kind : Int
 reg : Int
 addr : Int
 value : Int
 src : Int
 old : Int
 count : Int
abbrev insL (x : Ins) : List Value := [.int .i64 x.kind, .int .i64 x.reg, .int .i64 x.addr, .int .i64 x.value, .int .i64 x.src, .int .i64 x.old, .int .i64 x.count]
abbrev insV (x : Ins) : Value := .agg #[.int .i64 x.kind, .int .i64 x.reg, .int .i64 x.addr, .int .i64 x.value, .int .i64 x.src, .int .i64 x.old, .int .i64 x.count]
def insVals (l : List Ins) : List Value := l.flatMap insL
abbrev Hd := Option Addr × Nat × Nat
structure Lit where
 wA : Option Addr
 wn : Nat
 wk : Nat
 ws : List Int
 tA : Option Addr
 tn : Nat
 tk : Nat
 th : List (Hd × List Ins)
abbrev litL (l : Lit) : List Value := [.slice l.wA l.wn l.wk, .slice l.tA l.tn l.tk]
abbrev litV (l : Lit) : Value := .agg #[.slice l.wA l.wn l.wk, .slice l.tA l.tn l.tk]
def SrcOk (x : Ins) : Prop := -9223372036854775808 <= x.src /\ x.src <= 9223372036854775807
structure LitAt (w : World) (B : Nat) (l : Lit) : Prop where
 ws : Sl w B 1 l.wA l.wn (ints l.ws)
 wk : l.wn <= l.wk /\ l.wk <= maxLen
 th : Sl w B 1 l.tA l.tn (l.th.map fun x => hdV x.1)
 tk : l.tn <= l.tk /\ l.tk <= maxLen
 code : ∀ x ∈ l.th, Sl w B 7 x.1.1 x.1.2.1 (insVals x.2) /\ (x.1.2.1 <= x.1.2.2 /\ x.1.2.2 <= maxLen) /\ ∀ i ∈ x.2, SrcOk i
theorem insVals_len (l : List Ins) : (insVals l).length = l.length * 7 := by
 induction l with
 | nil => rfl
 | cons a l ih =>
  show (insL a ++ insVals l).length = _
  rw [List.length_append, ih]
  show 7 + l.length * 7 = (l.length + 1) * 7
  omega
theorem insVals_get {l : List Ins} : ∀ {j : Nat} {x : Ins}, l[j]? = some x -> ∀ q, q < 7 -> (insVals l)[j * 7 + q]? = (insL x)[q]? := by
 induction l with
 | nil => intro j x h; simp at h
 | cons a l ih =>
  intro j x h q hq
  cases j with
  | zero =>
   simp at h
   subst h
   show (insL a ++ insVals l)[0 * 7 + q]? = _
   rw [List.getElem?_append_left (by show 0 * 7 + q < 7; omega)]
   congr 1
   omega
  | succ j =>
   show (insL a ++ insVals l)[(j + 1) * 7 + q]? = _
   rw [List.getElem?_append_right (by show 7 <= (j + 1) * 7 + q; omega), <- ih (j := j) (by simpa using h) q hq]
   congr 1
   show (j + 1) * 7 + q - 7 = _
   omega
theorem LitAt.keep {w w' : World} {B : Nat} {l : Lit} (h : LitAt w B l) (hb : Below B w w') : LitAt w' B l :=
 ⟨h.ws.below hb, h.wk, h.th.below hb, h.tk, fun x hx => ⟨(h.code x hx).1.below hb, (h.code x hx).2⟩⟩
theorem LitAt.up {w : World} {B B' : Nat} {l : Lit} (h : LitAt w B l) (hB : B <= B') : LitAt w B' l :=
 ⟨h.ws.up hB, h.wk, h.th.up hB, h.tk, fun x hx => ⟨(h.code x hx).1.up hB, (h.code x hx).2⟩⟩
theorem LitAt.wlen {w : World} {B : Nat} {l : Lit} (h : LitAt w B l) : l.ws.length = l.wn := by have := h.ws.1; rw [ints_len] at this; omega
theorem LitAt.tlen {w : World} {B : Nat} {l : Lit} (h : LitAt w B l) : l.th.length = l.tn := by have := h.th.1; rw [List.length_map] at this; omega
theorem LitAt.clen {w : World} {B : Nat} {l : Lit} (h : LitAt w B l) {x : Hd × List Ins} (hx : x ∈ l.th) : x.2.length = x.1.2.1 := by have := (h.code x hx).1.1; rw [insVals_len] at this; omega
theorem LitAt.head {w : World} {B : Nat} {l : Lit} (h : LitAt w B l) {j : Nat} {x : Hd × List Ins} (hx : l.th[j]? = some x) : ∃ b o, l.tA = some ⟨b, o, none⟩ /\ b < B /\ w.cell? ⟨b, o + j, none⟩ = some (.slice x.1.1 x.1.2.1 x.1.2.2) := by
 have hj := (List.getElem?_eq_some_iff.1 hx).1
 obtain ⟨b, o, e, hb, hc⟩ := h.th.2 (by rw [h.tlen] at hj; omega)
 exact ⟨b, o, e, hb, hc j _ (by rw [List.getElem?_map, hx]; rfl)⟩
structure InsAt (x : Ins) (b o : Nat) (w : World) : Prop where
 c0 : w.cell? ⟨b, o, none⟩ = some (.int .i64 x.kind)
 c1 : w.cell? ⟨b, o + 1, none⟩ = some (.int .i64 x.reg)
 c2 : w.cell? ⟨b, o + 2, none⟩ = some (.int .i64 x.addr)
 c3 : w.cell? ⟨b, o + 3, none⟩ = some (.int .i64 x.value)
 c4 : w.cell? ⟨b, o + 4, none⟩ = some (.int .i64 x.src)
 c5 : w.cell? ⟨b, o + 5, none⟩ = some (.int .i64 x.old)
 c6 : w.cell? ⟨b, o + 6, none⟩ = some (.int .i64 x.count)
theorem ins_cell {w : World} {B n : Nat} {A : Option Addr} {c : List Ins} (h : Sl w B 7 A n (insVals c)) {i : Nat} {x : Ins} (hx : c[i]? = some x) : ∃ b o, A = some ⟨b, o, none⟩ /\ b < B /\ InsAt x b (o + i * 7) w := by
 have hi := (List.getElem?_eq_some_iff.1 hx).1
 have hl := h.1
 rw [insVals_len] at hl
 obtain ⟨b, o, e, hb, hc⟩ := h.2 (by omega)
 have g : ∀ q, q < 7 -> ∀ u, (insL x)[q]? = some u -> w.cell? ⟨b, o + (i * 7 + q), none⟩ = some u := fun q hq u hu => hc _ _ ((insVals_get hx q hq).trans hu)
 refine ⟨b, o, e, hb, ?_, ?_, ?_, ?_, ?_, ?_, ?_⟩
 ·exact g 0 (by omega) _ rfl
 all_goals rw [Nat.add_assoc]
 ·exact g 1 (by omega) _ rfl
 ·exact g 2 (by omega) _ rfl
 ·exact g 3 (by omega) _ rfl
 ·exact g 4 (by omega) _ rfl
 ·exact g 5 (by omega) _ rfl
 ·exact g 6 (by omega) _ rfl
def regB (x : Ins) : Bool := decide (0 <= x.reg) && decide (x.reg < 4)
def adrB (nw : Nat) (x : Ins) : Bool := decide (0 <= x.addr) && decide (x.addr < nw)
def okIns (nw : Nat) (x : Ins) : Bool :=
 if x.kind = 1 ∨ x.kind = 3 then regB x && adrB nw x
 else if x.kind = 2 then adrB nw x && (decide (-1 <= x.src) && decide (x.src < 4))
 else if x.kind = 4 then true
 else if x.kind = 5 ∨ x.kind = 6 then regB x
 else if x.kind = 7 then regB x && (decide (0 <= x.count) && decide (x.count <= 10))
 else false
def okLit (l : Lit) : Bool := decide (1 <= l.tn) && decide (l.tn <= 4) && decide (1 <= l.wn) && decide (l.wn <= 6) && l.th.all fun x => decide (x.1.2.1 <= 10) && x.2.all (okIns l.wn)
end Go.Proofs.YtgjdgapfnfhklaaGreat
namespace Go.Proofs.YtgjdgapfnfhklaaGreat
open Go.RowKit
theorem within_any (a n : Int) (w : World) : Calls Tryz.prog 77 #[.int .i64 a, .int .i64 n] w (fun e w' => e = .returned (.bool (decide (0 <= a) && decide (a < n))) /\ w' = w) := by
 by_cases h0 : 0 <= a
 ·by_cases h1 : a < n
  ·have b0 : decide (0 <= a) = true := by simp [h0]
   have b1 : decide (a < n) = true := by simp [h1]
   go_enter Tryz.func77, Tryz.ntmps77
   go_wp2_with fail
   go_ret
   exact ⟨by simp [h0, h1], rfl⟩
  ·have b0 : decide (0 <= a) = true := by simp [h0]
   have b1 : decide (a < n) = false := by simp [h1]
   go_enter Tryz.func77, Tryz.ntmps77
   go_wp2_with fail
   go_ret
   exact ⟨by simp, rfl⟩
 ·have b0 : decide (0 <= a) = false := by simp [h0]
  go_enter Tryz.func77, Tryz.ntmps77
  go_wp2_with fail
  go_ret
  exact ⟨by simp, rfl⟩
theorem win_b {a n : Int} {b : Bool} (w : World) (h : (decide (0 <= a) && decide (a < n)) = b) : Calls Tryz.prog 77 #[.int .i64 a, .int .i64 n] w (fun e w' => e = .returned (.bool b) /\ w' = w) := by
 rw [<- h]
 exact within_any a n w
theorem fits_any (l : Lit) (x : Ins) (w : World) (hs : SrcOk x) : Calls Tryz.prog 72 #[litV l, insV x] w (BoolR (okIns l.wn x) w) := by
 obtain ⟨kd, rg, ad, vl, sr, od, ct⟩ := x
 obtain ⟨r, hr⟩ : ∃ r, regB ⟨kd, rg, ad, vl, sr, od, ct⟩ = r := ⟨_, rfl⟩
 obtain ⟨d, hd⟩ : ∃ d, adrB l.wn ⟨kd, rg, ad, vl, sr, od, ct⟩ = d := ⟨_, rfl⟩
 have HR : Hid (∀ W, Calls Tryz.prog 77 #[.int .i64 rg, .int .i64 4] W (fun e w' => e = .returned (.bool r) /\ w' = W)) := fun W => win_b W hr
 have HD : Hid (∀ W, Calls Tryz.prog 77 #[.int .i64 ad, .int .i64 l.wn] W (fun e w' => e = .returned (.bool d) /\ w' = W)) := fun W => win_b W hd
 have HW0 : Hid (Below w.heap.size w (((w.alloc (.cells #[.slice l.wA l.wn l.wk, .slice l.tA l.tn l.tk] 25)).alloc (.cells #[.int .i64 kd, .int .i64 rg, .int .i64 ad, .int .i64 vl, .int .i64 sr, .int .i64 od, .int .i64 ct] 68)))) := ((Below.refl _ _).alloc (Nat.le_refl _) _).alloc (by simp) _
 have hsr : -9223372036854775808 <= sr /\ sr <= 9223372036854775807 := hs
 clear hs
 have hkk : kd = 1 ∨ kd = 2 ∨ kd = 3 ∨ kd = 4 ∨ kd = 5 ∨ kd = 6 ∨ kd = 7 ∨ (kd ≠ 1 /\ kd ≠ 2 /\ kd ≠ 3 /\ kd ≠ 4 /\ kd ≠ 5 /\ kd ≠ 6 /\ kd ≠ 7) := by omega
 obtain ⟨t, ht⟩ : ∃ t, (decide (-1 <= sr) && decide (sr < 4)) = t := ⟨_, rfl⟩
 obtain ⟨u, hu⟩ : ∃ u, (decide (0 <= ct) && decide (ct <= 10)) = u := ⟨_, rfl⟩
 obtain ⟨z, hz⟩ : ∃ z, IntKind.i64.wrap (sr + 1) = z := ⟨_, rfl⟩
 have HT : Hid (∀ W, Calls Tryz.prog 77 #[.int .i64 z, .int .i64 5] W (fun e w' => e = .returned (.bool t) /\ w' = W)) := fun W => by
  refine win_b W ?_
  rw [<- ht, <- hz]
  by_cases hm : sr = 9223372036854775807
  ·subst hm
   decide
  ·rw [show IntKind.i64.wrap (sr + 1) = sr + 1 from IntWalk.i64_in _ (by omega)]
   congr 1 <;> exact decide_eq_decide.2 (by omega)
 have HU : Hid (∀ W, Calls Tryz.prog 77 #[.int .i64 ct, .int .i64 11] W (fun e w' => e = .returned (.bool u) /\ w' = W)) := fun W => by
  refine win_b W ?_
  rw [<- hu]
  congr 1
  exact decide_eq_decide.2 (by omega)
 have HTt := Lh ht
 have HUu := Lh hu
 clear ht hu hsr
 have HRr := Lh hr
 have HDd := Lh hd
 clear hr hd
 go_enter Tryz.func72, Tryz.ntmps72
 go_upto_region 1 with fail
 have HL0 : Hid (Blk ((w.alloc (.cells #[.slice l.wA l.wn l.wk, .slice l.tA l.tn l.tk] 25)).alloc (.cells #[.int .i64 kd, .int .i64 rg, .int .i64 ad, .int .i64 vl, .int .i64 sr, .int .i64 od, .int .i64 ct] 68)) w.heap.size 25 (litL l)) := (Blk.new w 25 (litL l)).alloc _
 have HX0 : Hid (Blk ((w.alloc (.cells #[.slice l.wA l.wn l.wk, .slice l.tA l.tn l.tk] 25)).alloc (.cells #[.int .i64 kd, .int .i64 rg, .int .i64 ad, .int .i64 vl, .int .i64 sr, .int .i64 od, .int .i64 ct] 68)) (w.heap.size + 1) 68 (insL ⟨kd, rg, ad, vl, sr, od, ct⟩)) := by
  have h9 := Blk.new (w.alloc (.cells #[.slice l.wA l.wn l.wk, .slice l.tA l.tn l.tk] 25)) 68 (insL ⟨kd, rg, ad, vl, sr, od, ct⟩)
  rw [World.size_alloc] at h9
  exact h9
 generalize ((w.alloc (.cells #[.slice l.wA l.wn l.wk, .slice l.tA l.tn l.tk] 25)).alloc (.cells #[.int .i64 kd, .int .i64 rg, .int .i64 ad, .int .i64 vl, .int .i64 sr, .int .i64 od, .int .i64 ct] 68)) = w0 at HL0 HX0 HW0 ⊢
 have q0 := HL0.o.cell (i := 0) rfl
 have x0 := HX0.o.cell (i := 0) rfl
 have x1 := HX0.o.cell (i := 1) rfl
 have x2 := HX0.o.cell (i := 2) rfl
 have x4 := HX0.o.cell (i := 4) rfl
 have x6 := HX0.o.cell (i := 6) rfl
 clear HL0 HX0
 go_quiet (first | (go_at_call_of 77 rg; exact Calls.quiet_of_same (HR.o _)) | (go_at_call_of 77 ad; exact Calls.quiet_of_same (HD.o _)))
 rcases hkk with rfl | rfl | rfl | rfl | rfl | rfl | rfl | hn
 ·have HV := Lh (show okIns l.wn ⟨1, rg, ad, vl, sr, od, ct⟩ = (r && d) by unfold okIns; simp [HRr.o, HDd.o])
  cases r
  case false =>
   cases d
   case false =>
    go_wp2_with fail
    go_ret
    exact ⟨by rw [HV.o]; rfl, HW0.o.drewN _⟩
   case true =>
    go_wp2_with fail
    go_ret
    exact ⟨by rw [HV.o]; rfl, HW0.o.drewN _⟩
  case true =>
   cases d
   case false =>
    go_wp2_with fail
    go_ret
    exact ⟨by rw [HV.o]; rfl, HW0.o.drewN _⟩
   case true =>
    go_wp2_with fail
    go_ret
    exact ⟨by rw [HV.o]; rfl, HW0.o.drewN _⟩
 ·have HV := Lh (show okIns l.wn ⟨2, rg, ad, vl, sr, od, ct⟩ = (d && t) by unfold okIns; simp [HDd.o, HTt.o])
  cases d
  case false =>
   go_wp2_with fail
   go_ret
   exact ⟨by rw [HV.o]; rfl, HW0.o.drewN _⟩
  case true =>
   go_wp2_with fail
   refine (HT.o _).mono ?_
   rintro e wq ⟨rfl, hwq⟩
   replace hwq := hwq.symm
   subst hwq
   go_wp2_with fail
   go_ret
   exact ⟨by rw [HV.o]; rfl, HW0.o.drewN _⟩
 ·have HV := Lh (show okIns l.wn ⟨3, rg, ad, vl, sr, od, ct⟩ = (r && d) by unfold okIns; simp [HRr.o, HDd.o])
  cases r
  case false =>
   cases d
   case false =>
    go_wp2_with fail
    go_ret
    exact ⟨by rw [HV.o]; rfl, HW0.o.drewN _⟩
   case true =>
    go_wp2_with fail
    go_ret
    exact ⟨by rw [HV.o]; rfl, HW0.o.drewN _⟩
  case true =>
   cases d
   case false =>
    go_wp2_with fail
    go_ret
    exact ⟨by rw [HV.o]; rfl, HW0.o.drewN _⟩
   case true =>
    go_wp2_with fail
    go_ret
    exact ⟨by rw [HV.o]; rfl, HW0.o.drewN _⟩
 ·have HV := Lh (show okIns l.wn ⟨4, rg, ad, vl, sr, od, ct⟩ = true by unfold okIns; simp)
  go_wp2_with fail
  go_ret
  exact ⟨by rw [HV.o]; rfl, HW0.o.drewN _⟩
 ·have HV := Lh (show okIns l.wn ⟨5, rg, ad, vl, sr, od, ct⟩ = r by unfold okIns; simp [HRr.o])
  go_wp2_with fail
  go_ret
  exact ⟨by rw [HV.o]; rfl, HW0.o.drewN _⟩
 ·have HV := Lh (show okIns l.wn ⟨6, rg, ad, vl, sr, od, ct⟩ = r by unfold okIns; simp [HRr.o])
  go_wp2_with fail
  go_ret
  exact ⟨by rw [HV.o]; rfl, HW0.o.drewN _⟩
 ·have HV := Lh (show okIns l.wn ⟨7, rg, ad, vl, sr, od, ct⟩ = (r && u) by unfold okIns; simp [HRr.o, HUu.o])
  cases r
  case false =>
   go_wp2_with fail
   go_ret
   exact ⟨by rw [HV.o]; rfl, HW0.o.drewN _⟩
  case true =>
   go_wp2_with fail
   refine (HU.o _).mono ?_
   rintro e wq ⟨rfl, hwq⟩
   replace hwq := hwq.symm
   subst hwq
   go_wp2_with fail
   go_ret
   exact ⟨by rw [HV.o]; rfl, HW0.o.drewN _⟩
 ·have HV := Lh (show okIns l.wn ⟨kd, rg, ad, vl, sr, od, ct⟩ = false by unfold okIns; simp [hn])
  have e1 : (kd == 1) = false := by simp [hn]
  have e2 : (kd == 2) = false := by simp [hn]
  have e3 : (kd == 3) = false := by simp [hn]
  have e4 : (kd == 4) = false := by simp [hn]
  have e5 : (kd == 5) = false := by simp [hn]
  have e6 : (kd == 6) = false := by simp [hn]
  have e7 : (kd == 7) = false := by simp [hn]
  go_wp2_with fail
  go_ret
  exact ⟨by rw [HV.o]; rfl, HW0.o.drewN _⟩
end Go.Proofs.YtgjdgapfnfhklaaGreat
namespace Go.Proofs.YtgjdgapfnfhklaaGreat
open Go.RowKit
theorem gb_setCell {w w' : World} {g : Nat} (h : w.grownBy w' (some g)) (i : Nat) (u : Value) : w.grownBy (w'.setCell ⟨g, i, none⟩ u) (some g) :=
 ⟨h.os, h.tape, h.output, by have := h.size; simpa [World.setCell] using this, fun k hk hne => (Below.heap_setCell w' ⟨g, i, none⟩ u k (fun he => hne (by rw [he]))).trans (h.block k hk hne)⟩
theorem gb_drew {w w' : World} {row : Option Nat} (h : w.grownBy w' row) : w.grownBy w'.drew row := ⟨h.os, h.tape, h.output, h.size, h.block⟩
theorem gb_below {w w' : World} (h : Below w.heap.size w w') (row : Option Nat) : w.grownBy w' row := ⟨h.os, h.tape, h.output, h.size, fun k hk _ => h.block k hk⟩
theorem below_gb {w0 w w' : World} {B g : Nat} (h : Below B w0 w) (hg : w.grownBy w' (some g)) (hB : B <= g) (hs : B <= w.heap.size) : Below B w0 w' := h.grown hg hs (fun q hq => by injection hq with hq; omega)
theorem gb_cell {w w' : World} {g b o : Nat} (h : w.grownBy w' (some g)) (hb : b < w.heap.size) (hne : b ≠ g) : w'.cell? ⟨b, o, none⟩ = w.cell? ⟨b, o, none⟩ := by
 have := h.block b hb (fun he => hne (by injection he))
 unfold World.cell?
 dsimp only
 rw [this]
theorem clkL_len (n : Nat) (f : Clk) : (clkL n f).length = n := by simp [clkL]
theorem clkL_get {n : Nat} {f : Clk} {k : Nat} (h : k < n) : (clkL n f)[k]? = some (f k) := by simp [clkL, h]
theorem clkV_get {n : Nat} {f : Clk} {k : Nat} (h : k < n) : (ints (clkL n f))[k]? = some (.int .i64 (f k)) := ints_get (clkL_get h)
theorem clkL_congr {n : Nat} {f f' : Clk} (h : ∀ k, k < n -> f k = f' k) : clkL n f = clkL n f' := List.map_congr_left fun k hk => h k (List.mem_range.1 hk)
theorem clkL_set (n : Nat) (f : Clk) (j : Nat) (v : Int) : (ints (clkL n f)).set j (.int .i64 v) = ints (clkL n (fun k => if k = j then v else f k)) := by
 apply List.ext_getElem?
 intro i
 by_cases hi : i < n
 ·rw [clkV_get hi, List.getElem?_set]
  by_cases hij : j = i
  ·subst hij
   simp [ints, clkL, hi]
  ·rw [if_neg hij, clkV_get hi, if_neg (fun h => hij h.symm)]
 ·rw [List.getElem?_eq_none (by simp [ints, clkL]; omega), List.getElem?_eq_none (by simp [ints, clkL]; omega)]
def upTo (j : Nat) (f h : Clk) : Clk := fun k => if k < j then maxC f h k else f k
theorem upTo_zero (f h : Clk) : upTo 0 f h = f := by funext k; simp [upTo]
theorem upTo_all {n : Nat} {f h : Clk} : clkL n (upTo n f h) = clkL n (maxC f h) := clkL_congr fun k hk => by simp [upTo, hk]
theorem upTo_next (n j : Nat) (f h : Clk) : (ints (clkL n (upTo j f h))).set j (.int .i64 (if f j < h j then h j else f j)) = ints (clkL n (upTo (j + 1) f h)) := by
 rw [clkL_set]
 congr 1
 refine clkL_congr fun k _ => ?_
 unfold upTo
 by_cases hk : k = j
 ·subst hk; simp [maxC]
 ·rw [if_neg hk]
  by_cases hlt : k < j
  ·rw [if_pos hlt, if_pos (by omega)]
  ·rw [if_neg hlt, if_neg (by omega)]
theorem upTo_at (j : Nat) (f h : Clk) : upTo j f h j = f j := by simp [upTo]
def RaiseR (g : Nat) (t : TypeId) (L : List Value) (w : World) (e : Ending) (w' : World) : Prop := e = .returned (.tuple #[]) /\ w.grownBy w' (some g) /\ Blk w' g t L
def CopyR (l : List Int) (n : Nat) (w : World) (e : Ending) (w' : World) : Prop := ∃ A k, e = .returned (.slice A n k) /\ w'.ownsRow w.heap.size 3 1 (.slice A n k) n (ints l) /\ Below w.heap.size w w' /\ n <= k /\ k <= maxLen
theorem ints_oneI {l : List Int} : ∀ u ∈ ints l, u.oneCell' = true := by
 intro u hu
 obtain ⟨x, _, rfl⟩ := List.mem_map.1 hu
 rfl
theorem info_int' : (Tryz.prog.info? 3).map (fun i => (i.zero, i.size, i.bytes)) = some (some (.int .i64 0), 1, 8) := by kernel_rfl
theorem twin27_any (l : List Int) (A : Option Addr) (n k : Nat) (w : World) (h : Sl w w.heap.size 1 A n (ints l)) (hn : n * 8 <= 140737488355328) :
  Calls Tryz.prog 50 #[.slice A n k] w (CopyR l n w) := by
 obtain ⟨i0, hi0, hz0, hz1, hz2⟩ := info_parts info_int'
 have H := Lh h
 clear h
 go_enter Tryz.func50, Tryz.ntmps50
 go_wp2_with (at_builtin; go_must (refine wpList_app0 _ rfl _ _ 22 rfl w.heap.size 3 i0 (.int .i64 0) 1 8 Tryz.underlying22 hi0 hz0 hz1 hz2 rfl (by decide) _ rfl (World.ownsRow_nil _ _ _ _) _ A n k (ints l) rfl H.o ints_oneI (by simp only [maxLen]; omega) (by omega) (Nat.le_refl _) ?_; intro A2 k2 w2 hown2 hb2 _ hk1 hk2))
 go_ret
 exact ⟨A2, k2, rfl, hown2, hb2, hk1, hk2⟩
theorem ahead27_any (f h : Clk) (A A' : Option Addr) (n k k' t : Nat) (w : World) (hA : Sl w w.heap.size 1 A n (ints (clkL n f))) (hA' : Sl w w.heap.size 1 A' n (ints (clkL n h))) (ht : t < n) (hn : n <= maxLen) :
  Calls Tryz.prog 71 #[.slice A n k, .slice A' n k', .int .i64 t] w (BoolR (decide (f t <= h t)) w) := by
 unfold maxLen at hn
 obtain ⟨b, o, rfl, hb, hc⟩ := hA.2 (by omega)
 obtain ⟨b', o', rfl, hb', hc'⟩ := hA'.2 (by omega)
 have c1 : w.cell? ⟨b, o + t, none⟩ = some (.int .i64 (f t)) := hc t _ (clkV_get ht)
 have c2 : w.cell? ⟨b', o' + t, none⟩ = some (.int .i64 (h t)) := hc' t _ (clkV_get ht)
 have e1 : (t : Int) < n := by omega
 have e0 : (0 : Int) <= t := by omega
 clear hA hA' hc hc'
 go_enter Tryz.func71, Tryz.ntmps71
 go_upto_region 1 with fail
 go_quiet (fail)
 go_wp2_with fail
 go_ret
 exact ⟨rfl, (Below.refl _ _).drewN _⟩
end Go.Proofs.YtgjdgapfnfhklaaGreat
namespace Go.Proofs.YtgjdgapfnfhklaaGreat
open Go.RowKit
theorem tri (x a b : Int) (h : a <= b) : (x < a /\ decide (x < a) = true) ∨ (¬ x < a /\ decide (x < a) = false /\ b <= x /\ decide (b <= x) = true) ∨ (¬ x < a /\ decide (x < a) = false /\ ¬ b <= x /\ decide (b <= x) = false) := by
 simp only [decide_eq_true_eq, decide_eq_false_iff_not]
 omega
theorem tri2 (x a b : Int) : (¬ a <= x /\ decide (a <= x) = false) ∨ (a <= x /\ decide (a <= x) = true /\ ¬ x <= b /\ decide (x <= b) = false) ∨ (a <= x /\ decide (a <= x) = true /\ x <= b /\ decide (x <= b) = true) := by
 simp only [decide_eq_true_eq, decide_eq_false_iff_not]
 omega
theorem rfits_any (x : Ins) (n : Nat) (w : World) : Calls Tryz.prog 17 #[insV x, .int .i64 n] w (BoolR (okIns n x) w) := by
 obtain ⟨kd, rg, ad, vl, sr, od, ct⟩ := x
 have HW0 : Hid (Below w.heap.size w (w.alloc (.cells #[.int .i64 kd, .int .i64 rg, .int .i64 ad, .int .i64 vl, .int .i64 sr, .int .i64 od, .int .i64 ct] 68))) := (Below.refl _ _).alloc (Nat.le_refl _) _
 have hkk : kd = 1 ∨ kd = 3 ∨ kd = 2 ∨ kd = 4 ∨ kd = 5 ∨ kd = 6 ∨ kd = 7 ∨ kd < 1 ∨ 7 < kd := by omega
 rcases hkk with rfl | rfl | rfl | rfl | rfl | rfl | rfl | hn | hn
 iterate 2 (
  rcases tri rg 0 4 (by omega) with ⟨p0, q0⟩ | ⟨p0, q0, p1, q1⟩ | ⟨p0, q0, p1, q1⟩
  rotate_left 2
  rcases tri ad 0 n (by omega) with ⟨p2, q2⟩ | ⟨p2, q2, p3, q3⟩ | ⟨p2, q2, p3, q3⟩
  rotate_left 3)
 rcases tri ad 0 n (by omega) with ⟨p2, q2⟩ | ⟨p2, q2, p3, q3⟩ | ⟨p2, q2, p3, q3⟩
 rotate_left 2
 rcases tri sr (-1) 4 (by omega) with ⟨p0, q0⟩ | ⟨p0, q0, p1, q1⟩ | ⟨p0, q0, p1, q1⟩
 rotate_left 4
 iterate 2 (
  rcases tri rg 0 4 (by omega) with ⟨p0, q0⟩ | ⟨p0, q0, p1, q1⟩ | ⟨p0, q0, p1, q1⟩
  rotate_left 3)
 rcases tri rg 0 4 (by omega) with ⟨p0, q0⟩ | ⟨p0, q0, p1, q1⟩ | ⟨p0, q0, p1, q1⟩
 rotate_left 2
 rcases tri2 ct 0 10 with ⟨p2, q2⟩ | ⟨p2, q2, p3, q3⟩ | ⟨p2, q2, p3, q3⟩
 rotate_left 3
 have q0 : decide (kd < 1) = true := by simpa using hn
 rotate_left
 have p0 : ¬ kd < 1 := by omega
 have q0 : decide (kd < 1) = false := by simp; omega
 have q1 : decide (7 < kd) = true := by simpa using hn
 all_goals (
  go_enter Tryz.func17, Tryz.ntmps17
  go_wp2_with fail
  go_ret
  refine ⟨congrArg (fun b : Bool => Ending.returned (.bool b)) (Eq.symm ?_), HW0.o⟩
  first
   | (unfold okIns; rw [if_neg (by dsimp only; omega), if_neg (by dsimp only; omega), if_neg (by dsimp only; omega), if_neg (by dsimp only; omega), if_neg (by dsimp only; omega)])
   | (simp only [okIns, regB, adrB]; simp; try (intros; omega)))
end Go.Proofs.YtgjdgapfnfhklaaGreat
