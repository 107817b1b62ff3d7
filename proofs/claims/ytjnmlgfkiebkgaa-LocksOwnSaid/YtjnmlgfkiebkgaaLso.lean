/-
  slices.SortStableFunc of fewer than twenty: the insertion sort alone (the shelf's contract); of stays and of calls.
-/
import Derived.Test.YtjnmlgfkiebkgaaLpl
import Derived.Shelf.SlSortCmp.KitK
namespace Go.Proofs.Ytjnmlgfkiebkgaa
open Go.RowKit
set_option linter.unusedVariables false
set_option linter.unusedSimpArgs false

def cmpI (x y : Int) : Int := bif decide (x < y) then -1 else bif decide (y < x) then 1 else 0
theorem nan_any (x : Int) (w : World) : Calls Try.prog 55 #[.int .i64 x] w (fun e w' => e = .returned (.bool false) ∧ w' = w) := by
  have n1 : (x != x) = false := by simp
  have n2 : decide (x = x) = true := by simp
  go_enter Try.func55, Try.ntmps55
  go_wp2_with fail
  all_goals (go_ret; exact ⟨rfl, rfl⟩)
set_option maxRecDepth 100000 in
set_option maxHeartbeats 1000000 in
theorem cmp_any (x y : Int) (w : World) : Calls Try.prog 35 #[.int .i64 x, .int .i64 y] w (fun e w' => e = .returned (.int .i64 (cmpI x y)) ∧ w' = w) := by
  unfold cmpI
  cases h1 : decide (x < y) with
  | true =>
    have h2 : x < y := by simpa using h1
    go_enter Try.func35, Try.ntmps35
    go_wp2_with fail
    refine (nan_any x w).mono ?_
    rintro e w1 ⟨rfl, rfl⟩
    go_wp2_with fail
    refine (nan_any y w1).mono ?_
    rintro e w2 ⟨rfl, rfl⟩
    go_wp2_with fail
    go_ret
    exact ⟨rfl, rfl⟩
  | false =>
    cases h3 : decide (y < x) with
    | true =>
      have h4 : y < x := by simpa using h3
      go_enter Try.func35, Try.ntmps35
      go_wp2_with fail
      refine (nan_any x w).mono ?_
      rintro e w1 ⟨rfl, rfl⟩
      go_wp2_with fail
      refine (nan_any y w1).mono ?_
      rintro e w2 ⟨rfl, rfl⟩
      go_wp2_with fail
      go_ret
      exact ⟨rfl, rfl⟩
    | false =>
      go_enter Try.func35, Try.ntmps35
      go_wp2_with fail
      refine (nan_any x w).mono ?_
      rintro e w1 ⟨rfl, rfl⟩
      go_wp2_with fail
      refine (nan_any y w1).mono ?_
      rintro e w2 ⟨rfl, rfl⟩
      go_wp2_with fail
      go_ret
      exact ⟨rfl, rfl⟩
/-- a stay -/
structure St where
  th : Int
  sh : Bool
  fr : Int
  til : Int
abbrev styL (s : St) : List Value := [.int .i64 s.th, .bool s.sh, .int .i64 s.fr, .int .i64 s.til]
def styVals (l : List St) : List Value := l.flatMap styL
set_option maxRecDepth 100000 in
set_option maxHeartbeats 1000000 in
theorem sty_any (x y : St) (w : World) : Calls Try.prog 34 #[.agg (styL x).toArray, .agg (styL y).toArray] w (fun e w' => e = .returned (.int .i64 (cmpI x.fr y.fr)) ∧ w' = (w.alloc (.cells (styL x).toArray 68)).alloc (.cells (styL y).toArray 68)) := by
  go_enter Try.func34, Try.ntmps34
  go_wp2_with fail
  refine (cmp_any x.fr y.fr _).mono ?_
  rintro e w1 ⟨rfl, rfl⟩
  go_wp2_with fail
  go_ret
  exact ⟨rfl, rfl⟩
set_option maxRecDepth 100000 in
set_option maxHeartbeats 1000000 in
theorem cal_any (x y : Cal) (w : World) : Calls Try.prog 38 #[.agg (calL x).toArray, .agg (calL y).toArray] w (fun e w' => e = .returned (.int .i64 (cmpI x.fin y.fin)) ∧ w' = (w.alloc (.cells (calL x).toArray 62)).alloc (.cells (calL y).toArray 62)) := by
  go_enter Try.func38, Try.ntmps38
  go_wp2_with fail
  refine (cmp_any x.fin y.fin _).mono ?_
  rintro e w1 ⟨rfl, rfl⟩
  go_wp2_with fail
  go_ret
  exact ⟨rfl, rfl⟩
/-- one stay is over ahead of the other -/
def St.apart (a b : St) : Bool := a.til != -1 && decide (a.til < b.fr)
set_option maxRecDepth 100000 in
set_option maxHeartbeats 1000000 in
theorem apart_any (x y : St) (w : World) : Calls Try.prog 36 #[.agg (styL x).toArray, .agg (styL y).toArray] w (fun e w' => e = .returned (.bool (x.apart y)) ∧ Below w.heap.size w w') := by
  unfold St.apart
  cases h1 : (x.til != -1) with
  | true =>
    cases h2 : decide (x.til < y.fr) <;>
    · go_enter Try.func36, Try.ntmps36
      go_wp2_with fail
      go_ret
      exact ⟨rfl, ((Below.refl _ _).alloc (Nat.le_refl _) _).alloc (by simp) _⟩
  | false =>
    go_enter Try.func36, Try.ntmps36
    go_wp2_with fail
    go_ret
    exact ⟨rfl, ((Below.refl _ _).alloc (Nat.le_refl _) _).alloc (by simp) _⟩
end Go.Proofs.Ytjnmlgfkiebkgaa
namespace Go.Proofs.Ytjnmlgfkiebkgaa
open Go.RowKit Go.Shelf
open Go.Sort (putRowK putRow size_putRowK HoldsK flatK size_flatK get_flatK)
set_option linter.unusedVariables false
set_option linter.unusedSimpArgs false

section
variable {α : Type} [Inhabited α] {enc : α → List Value} {k : Nat}
theorem sort_grown {w : World} {g n : Nat} {os : Array Obj} (d : Array α) : w.grownBy (sortWorldK enc k w g 0 n d os) (some g) := by
  unfold sortWorldK
  refine ⟨rfl, rfl, rfl, ?_, fun j hj hne => ?_⟩
  · rw [Sort.size_grow, size_putRowK]
    exact Nat.le_add_right _ _
  · rw [Sort.heap_grow_old _ _ (by rw [size_putRowK]; exact hj)]
    have : g ≠ j := fun e => hne (by rw [e])
    simp [putRowK, Sort.putRow, Sort.mapBlock, Sort.ahead, Array.getElem?_modify, this]
omit [Inhabited α] in
theorem flat_lenL (hk : ∀ x, (enc x).length = k) (l : List α) : (l.flatMap enc).length = l.length * k := by
  induction l with
  | nil => simp
  | cons a l ih => simp only [List.flatMap_cons, List.length_append, ih, hk, List.length_cons, Nat.add_mul, Nat.one_mul]; omega
omit [Inhabited α] in
theorem flat_getL (hk : ∀ x, (enc x).length = k) {l : List α} {t : Nat} {x : α} (hx : l[t]? = some x) (j : Nat) (hj : j < k) : (l.flatMap enc)[t * k + j]? = (enc x)[j]? := by
  induction l generalizing t with
  | nil => simp at hx
  | cons a l ih =>
    rw [List.flatMap_cons]
    cases t with
    | zero =>
      simp at hx
      subst hx
      rw [List.getElem?_append_left (by rw [hk]; omega)]
      simp
    | succ t =>
      rw [List.getElem?_append_right (by rw [hk, Nat.add_mul]; omega), hk, show (t + 1) * k + j - k = t * k + j by rw [Nat.add_mul]; omega]
      exact ih (by simpa using hx)
theorem flatK_list (hk : ∀ x, (enc x).length = k) (d : Array α) : (flatK enc k d).toList = d.toList.flatMap enc := by
  refine List.ext_getElem? fun t => ?_
  by_cases ht : t < d.size * k
  · have k0 : 0 < k := by rcases Nat.eq_zero_or_pos k with h | h; · subst h; simp at ht
                          · exact h
    have h1 : t / k < d.size := (Nat.div_lt_iff_lt_mul k0).2 ht
    have h2 : d.toList[t / k]? = some d[t / k]! := by rw [Array.getElem?_toList, Array.getElem?_eq_getElem h1, getElem!_pos d _ h1]
    have h3 := flat_getL hk h2 (t % k) (Nat.mod_lt _ k0)
    rw [show t / k * k + t % k = t by rw [Nat.mul_comm]; exact Nat.div_add_mod t k] at h3
    rw [h3, Array.getElem?_toList, Array.getElem?_eq_getElem (by rw [size_flatK]; exact ht)]
    have h4 := get_flatK enc k d t ht
    rw [getElem!_pos _ t (by rw [size_flatK]; exact ht)] at h4
    rw [h4]
    have h5 : t % k < (enc d[t / k]!).length := by rw [hk]; exact Nat.mod_lt _ k0
    rw [List.getElem?_eq_getElem h5, getElem!_pos (enc d[t / k]!) (t % k) h5]
  · rw [List.getElem?_eq_none (by simp; omega), List.getElem?_eq_none (by rw [flat_lenL hk]; simp; omega)]
theorem row_holds {W : World} {B g cap : Nat} {t : TypeId} (hk : ∀ x, (enc x).length = k) (d : Array α) (h : W.ownsRow B t k (.slice (some ⟨g, 0, none⟩) d.size cap) d.size (d.toList.flatMap enc)) : HoldsK enc k W g 0 d := fun j hj => by
  rw [size_flatK] at hj
  rw [Nat.zero_add]
  refine ⟨(h.cellAt j hj).trans ?_, h.frozenAt j⟩
  rw [← flatK_list hk d, Array.getElem?_toList, Array.getElem?_eq_getElem (by rw [size_flatK]; exact hj), getElem!_pos _ j (by rw [size_flatK]; exact hj)]
  rfl
theorem row_sorted {W : World} {B g cap m : Nat} {t : TypeId} {os : Array Obj} (hk : ∀ x, (enc x).length = k) (d d' : Array α) (hs : d'.size = d.size) (h : W.ownsRow B t k (.slice (some ⟨g, 0, none⟩) d.size cap) d.size (d.toList.flatMap enc)) :
    (sortWorldK enc k W g 0 m d' os).ownsRow B t k (.slice (some ⟨g, 0, none⟩) d.size cap) d.size (d'.toList.flatMap enc) := by
  refine ⟨by rw [flat_lenL hk]; simp [hs], ?_⟩
  rcases h.2 with ⟨h0, _⟩ | ⟨g', cap', cur, hv, hB, hg, h1, h2, h3, h4⟩
  · cases h0
  · injection hv with hA _ hc
    injection hA with hA
    injection hA with hA
    subst hA hc
    refine Or.inr ⟨g, cap, Sort.putCells id 0 (flatK enc k d') cur, rfl, hB, ?_, h1, h2, ?_, ?_⟩
    · have hlt : g < W.heap.size := (Array.getElem?_eq_some_iff.1 hg).1
      unfold sortWorldK
      rw [Sort.heap_grow_old _ _ (by rw [size_putRowK]; exact hlt)]
      simp [putRowK, Sort.putRow, Sort.mapBlock, Sort.ahead, Array.getElem?_modify, hg, Sort.onCells]
    · simpa [Sort.putCells] using h3
    · rw [← flatK_list hk d']
      refine List.ext_getElem? fun t => ?_
      have hn : d.size * k ≤ cur.size := by rw [h3]; exact Nat.mul_le_mul_right k h1
      by_cases ht : t < d.size * k
      · rw [List.getElem?_take_of_lt ht, Array.getElem?_toList, Array.getElem?_toList]
        have : t < (flatK enc k d').size := by rw [size_flatK, hs]; exact ht
        simp [Sort.putCells, Array.getElem?_mapIdx, this, show t < cur.size by omega, size_flatK, hs, ht, getElem!_pos (flatK enc k d') t this]
      · rw [List.getElem?_eq_none (by simp; omega), List.getElem?_eq_none (by simp [size_flatK, hs]; omega)]
end
end Go.Proofs.Ytjnmlgfkiebkgaa
namespace Go.Proofs.Ytjnmlgfkiebkgaa
open Go.RowKit Go.Shelf
open Go.Sort (putRowK putRow size_putRowK HoldsK flatK size_flatK get_flatK)
set_option linter.unusedVariables false
set_option linter.unusedSimpArgs false

section
variable {α : Type} [Inhabited α] (lt : α → α → Bool)
theorem ins_id (d : Array α) (h : ∀ i, 0 < i → i < d.size → lt d[i]! d[i - 1]! = false) (n : Nat) : ∀ i, d.size - i ≤ n → 0 < i → Sort.insOuter lt 0 d.size i d = d := by
  induction n with
  | zero =>
    intro i hi h0
    exact insOuter_stop lt 0 d.size i d (by omega)
  | succ n ih =>
    intro i hi h0
    by_cases hlt : i < d.size
    · rw [insOuter_go lt 0 d.size i d hlt, insInner_stop lt 0 i d (Or.inr (h i h0 hlt))]
      exact ih (i + 1) (by omega) (by omega)
    · exact insOuter_stop lt 0 d.size i d hlt
theorem insS_id (d : Array α) (h : ∀ i, 0 < i → i < d.size → lt d[i]! d[i - 1]! = false) : Sort.insertionSort lt d 0 d.size = d := ins_id lt d h d.size 1 (by omega) (by omega)
end
theorem insInner_size {α : Type} [Inhabited α] (lt : α → α → Bool) (a : Nat) : ∀ (j : Nat) (d : Array α), (Sort.insInner lt a j d).size = d.size := by
  intro j
  induction j with
  | zero => intro d; rfl
  | succ j ih =>
    intro d
    rw [Sort.insInner]
    split
    · rw [ih]; simp [Sort.swp]
    · rfl
theorem insOuter_size {α : Type} [Inhabited α] (lt : α → α → Bool) (a b n : Nat) : ∀ (i : Nat) (d : Array α), b - i ≤ n → (Sort.insOuter lt a b i d).size = d.size := by
  induction n with
  | zero => intro i d h; rw [insOuter_stop lt a b i d (by omega)]
  | succ n ih =>
    intro i d h
    by_cases hlt : i < b
    · rw [insOuter_go lt a b i d hlt, ih (i + 1) _ (by omega), insInner_size]
    · rw [insOuter_stop lt a b i d hlt]
theorem insS_size {α : Type} [Inhabited α] (lt : α → α → Bool) (d : Array α) (a b : Nat) : (Sort.insertionSort lt d a b).size = d.size := insOuter_size lt a b b _ d (by omega)


instance : Inhabited St := ⟨⟨0, false, 0, 0⟩⟩
def sty_ren : Go.Shelf.Ren := ⟨fun | 20 => 62 | n => n, fun | 22 => 41 | 24 => 68 | 25 => 85 | 3 => 3 | 0 => 0 | 4 => 4 | n => n, fun n => n⟩
theorem sty_lay : SlLaysF0.n20 Try.prog sty_ren := {
  mixed := by kernel_rfl
  f20 := ⟨Try.f62.name, by decide, Try.func62.trans (congrArg some (by kernel_rfl))⟩
  t0 := Try.underlying0
  a0 := Try.isAgg0
  z0 := Try.sizeOf0
  v0 := Try.zeroValue0
  t3 := Try.underlying3
  a3 := Try.isAgg3
  z3 := Try.sizeOf3
  v3 := Try.zeroValue3
  t4 := Try.underlying4
  a4 := Try.isAgg4
  z4 := Try.sizeOf4
  v4 := Try.zeroValue4
  t22 := Try.underlying41
  a22 := Try.isAgg41
  z22 := Try.sizeOf41
  v22 := Try.zeroValue41
  t25 := Try.underlying85
  a25 := Try.isAgg85
  z25 := Try.sizeOf85
  v25 := Try.zeroValue85 }
def styC (x y : St) : Int := cmpI x.fr y.fr
theorem styL_one (x : St) : ∀ v ∈ styL x, v.oneCell' = true := by
  intro v hv
  simp at hv
  rcases hv with rfl | rfl | rfl | rfl <;> rfl
theorem sty_lays (g n : Nat) (w : World) : CmpLays Try.prog 34 #[] (fun x => styL x) 4 styC g 0 n w := fun m os dk _ x y => by
  refine (sty_any x y _).mono ?_
  rintro e w' ⟨rfl, rfl⟩
  exact ⟨rfl, 0, _, by rw [Sort.alloc_eq_grow, Sort.alloc_eq_grow, Sort.grow_grow]; rfl⟩
theorem sty_ins (d : Array St) (g a b cap : Nat) (w : World) (hH : HoldsK (fun x => styL x) 4 w g 0 d) (hg : g < w.heap.size) (hab : a ≤ b) (hb : b ≤ d.size) (hz : d.size < 4611686018427387904) :
    Calls Try.prog 62 #[.slice (some ⟨g, 0, none⟩) d.size cap, .int .i64 a, .int .i64 b, .func (.func 34) #[] #[]] w fun e w' =>
      e = .returned (.tuple #[]) ∧ ∃ n os, w' = sortWorldK (fun x => styL x) 4 w g 0 n (Sort.insertionSort (ltOf styC) d a b) os :=
  AnyQ.insertionSortCmpFunc sty_lay 4 Try.isAgg68 Try.sizeOf68 (fun x => styL x) (fun _ => rfl) styL_one styC 34 #[] g 0 cap a b d w (enters_of Try.func34 (by kernel_rfl) rfl) (sty_lays g _ w) hH hg hab hb hz
theorem sty_ins0 (w : World) (v : Value) : Calls Try.prog 62 #[.slice none 0 0, .int .i64 0, .int .i64 0, v] w fun e w' => e = .returned (.tuple #[]) ∧ w' = w := by
  go_enter Try.func62, Try.ntmps62
  go_wp2_with fail
  refine wp_loop_rounds 1 ?_
  rw [rounds_succ]
  go_wp2_with fail
  all_goals (go_end0; exact ⟨rfl, rfl⟩)
set_option maxRecDepth 100000 in
set_option maxHeartbeats 1000000 in
theorem sty_stab (d : Array St) (g cap : Nat) (w : World) (hH : HoldsK (fun x => styL x) 4 w g 0 d) (hg : g < w.heap.size) (hz : d.size < 20) :
    Calls Try.prog 54 #[.slice (some ⟨g, 0, none⟩) d.size cap, .int .i64 d.size, .func (.func 34) #[] #[]] w fun e w' =>
      e = .returned (.tuple #[]) ∧ ∃ n os, w' = sortWorldK (fun x => styL x) 4 w g 0 n (Sort.insertionSort (ltOf styC) d 0 d.size) os := by
  have hins := Lib.hid (sty_ins d g 0 d.size cap w hH hg (Nat.zero_le _) (Nat.le_refl _) (by omega))
  have t1 : ¬ (20 : Int) ≤ d.size := by omega
  have t2 : ¬ (20 : Int) < d.size := by omega
  have t3 : decide ((20 : Int) ≤ d.size) = false := by simp; omega
  have t4 : decide ((20 : Int) < d.size) = false := by simp; omega
  clear hH
  go_enter Try.func54, Try.ntmps54
  go_wp2_with fail
  refine wp_loop_rounds 1 ?_
  rw [rounds_succ]
  go_wp2_with fail
  refine hins.out.mono ?_
  rintro e w1 ⟨rfl, n, os, rfl⟩
  go_wp2_with fail
  refine wp_loop_rounds 1 ?_
  rw [rounds_succ]
  go_wp2_with fail
  all_goals (go_end0; exact ⟨rfl, n, os, rfl⟩)
set_option maxRecDepth 100000 in
set_option maxHeartbeats 1000000 in
theorem sty_stab0 (w : World) (v : Value) : Calls Try.prog 54 #[.slice none 0 0, .int .i64 0, v] w fun e w' => e = .returned (.tuple #[]) ∧ w' = w := by
  have hins := Lib.hid (sty_ins0 w v)
  go_enter Try.func54, Try.ntmps54
  go_wp2_with fail
  refine wp_loop_rounds 1 ?_
  rw [rounds_succ]
  go_wp2_with fail
  refine hins.out.mono ?_
  rintro e w1 ⟨rfl, rfl⟩
  go_wp2_with fail
  refine wp_loop_rounds 1 ?_
  rw [rounds_succ]
  go_wp2_with fail
  all_goals (go_end0; exact ⟨rfl, rfl⟩)
/-- what SortStableFunc makes of a row of one's own -/
def styS (l l' : List St) : Prop := ∀ (w : World) (B : Nat) (A : Option Addr) (c : Nat), w.ownsRow B 68 4 (.slice A l.length c) l.length (styVals l) →
  Calls Try.prog 33 #[.slice A l.length c, .func (.func 34) #[] #[]] w fun e w' =>
    e = .returned (.tuple #[]) ∧ w'.ownsRow B 68 4 (.slice A l.length c) l.length (styVals l') ∧ w.grownBy w' ((Value.slice A l.length c).ownBlock)
set_option maxRecDepth 100000 in
set_option maxHeartbeats 1000000 in
theorem sty_small (l : List St) (hz : l.length < 20) : styS l (Sort.insertionSort (ltOf styC) l.toArray 0 l.length).toList := by
  intro w B A c h
  rcases h.2 with ⟨h0, h1⟩ | ⟨g, cap', cur, hv, hB, hg, h1, h2, h3, h4⟩
  · injection h0 with hA hn hc
    subst hA hc
    have hl : l = [] := List.eq_nil_of_length_eq_zero hn
    subst hl
    have hst := Lib.hid (sty_stab0 w (.func (.func 34) #[] #[]))
    go_enter Try.func33, Try.ntmps33
    go_wp2_with fail
    refine hst.out.mono ?_
    rintro e w1 ⟨rfl, rfl⟩
    go_wp2_with fail
    go_end0
    have hs : (Sort.insertionSort (ltOf styC) ([] : List St).toArray 0 0).toList = [] := List.eq_nil_of_length_eq_zero (by rw [Array.length_toList, insS_size]; rfl)
    refine ⟨rfl, ?_, World.grownBy.refl _ _⟩
    show w1.ownsRow _ _ _ _ _ (styVals (Sort.insertionSort (ltOf styC) ([] : List St).toArray 0 0).toList)
    rw [hs]
    exact h
  · injection hv with hA _ hc
    subst hA hc
    have hH : HoldsK (fun x => styL x) 4 w g 0 l.toArray := row_holds (enc := fun x => styL x) (k := 4) (B := B) (t := 68) (fun _ => rfl) l.toArray h
    have hst := Lib.hid (sty_stab l.toArray g c w hH ((Array.getElem?_eq_some_iff.1 hg).1) (by simpa using hz))
    have O := Lib.hid h
    clear hH hg h h1 h2 h3 h4 cur
    go_enter Try.func33, Try.ntmps33
    go_wp2_with fail
    refine hst.out.mono ?_
    rintro e w1 ⟨rfl, n, os, rfl⟩
    go_wp2_with fail
    go_end0
    exact ⟨rfl, row_sorted (enc := fun x => styL x) (k := 4) (fun _ => rfl) l.toArray _ (by rw [insS_size]) O.out, sort_grown _⟩

instance : Inhabited Cal := ⟨cal0⟩
def cal_ren : Go.Shelf.Ren := ⟨fun | 20 => 64 | n => n, fun | 22 => 35 | 24 => 62 | 25 => 88 | 3 => 3 | 0 => 0 | 4 => 4 | n => n, fun n => n⟩
theorem cal_lay : SlLaysF0.n20 Try.prog cal_ren := {
  mixed := by kernel_rfl
  f20 := ⟨Try.f64.name, by decide, Try.func64.trans (congrArg some (by kernel_rfl))⟩
  t0 := Try.underlying0
  a0 := Try.isAgg0
  z0 := Try.sizeOf0
  v0 := Try.zeroValue0
  t3 := Try.underlying3
  a3 := Try.isAgg3
  z3 := Try.sizeOf3
  v3 := Try.zeroValue3
  t4 := Try.underlying4
  a4 := Try.isAgg4
  z4 := Try.sizeOf4
  v4 := Try.zeroValue4
  t22 := Try.underlying35
  a22 := Try.isAgg35
  z22 := Try.sizeOf35
  v22 := Try.zeroValue35
  t25 := Try.underlying88
  a25 := Try.isAgg88
  z25 := Try.sizeOf88
  v25 := Try.zeroValue88 }
def calC (x y : Cal) : Int := cmpI x.fin y.fin
theorem calL_one (x : Cal) : ∀ v ∈ calL x, v.oneCell' = true := by
  intro v hv
  simp at hv
  rcases hv with rfl | rfl | rfl | rfl | rfl | rfl | rfl | rfl | rfl <;> rfl
theorem cal_lays (g n : Nat) (w : World) : CmpLays Try.prog 38 #[] (fun x => calL x) 9 calC g 0 n w := fun m os dk _ x y => by
  refine (cal_any x y _).mono ?_
  rintro e w' ⟨rfl, rfl⟩
  exact ⟨rfl, 0, _, by rw [Sort.alloc_eq_grow, Sort.alloc_eq_grow, Sort.grow_grow]; rfl⟩
theorem cal_ins (d : Array Cal) (g a b cap : Nat) (w : World) (hH : HoldsK (fun x => calL x) 9 w g 0 d) (hg : g < w.heap.size) (hab : a ≤ b) (hb : b ≤ d.size) (hz : d.size < 4611686018427387904) :
    Calls Try.prog 64 #[.slice (some ⟨g, 0, none⟩) d.size cap, .int .i64 a, .int .i64 b, .func (.func 38) #[] #[]] w fun e w' =>
      e = .returned (.tuple #[]) ∧ ∃ n os, w' = sortWorldK (fun x => calL x) 9 w g 0 n (Sort.insertionSort (ltOf calC) d a b) os :=
  AnyQ.insertionSortCmpFunc cal_lay 9 Try.isAgg62 Try.sizeOf62 (fun x => calL x) (fun _ => rfl) calL_one calC 38 #[] g 0 cap a b d w (enters_of Try.func38 (by kernel_rfl) rfl) (cal_lays g _ w) hH hg hab hb hz
theorem cal_ins0 (w : World) (v : Value) : Calls Try.prog 64 #[.slice none 0 0, .int .i64 0, .int .i64 0, v] w fun e w' => e = .returned (.tuple #[]) ∧ w' = w := by
  go_enter Try.func64, Try.ntmps64
  go_wp2_with fail
  refine wp_loop_rounds 1 ?_
  rw [rounds_succ]
  go_wp2_with fail
  all_goals (go_end0; exact ⟨rfl, rfl⟩)
set_option maxRecDepth 100000 in
set_option maxHeartbeats 1000000 in
theorem cal_stab (d : Array Cal) (g cap : Nat) (w : World) (hH : HoldsK (fun x => calL x) 9 w g 0 d) (hg : g < w.heap.size) (hz : d.size < 20) :
    Calls Try.prog 56 #[.slice (some ⟨g, 0, none⟩) d.size cap, .int .i64 d.size, .func (.func 38) #[] #[]] w fun e w' =>
      e = .returned (.tuple #[]) ∧ ∃ n os, w' = sortWorldK (fun x => calL x) 9 w g 0 n (Sort.insertionSort (ltOf calC) d 0 d.size) os := by
  have hins := Lib.hid (cal_ins d g 0 d.size cap w hH hg (Nat.zero_le _) (Nat.le_refl _) (by omega))
  have t1 : ¬ (20 : Int) ≤ d.size := by omega
  have t2 : ¬ (20 : Int) < d.size := by omega
  have t3 : decide ((20 : Int) ≤ d.size) = false := by simp; omega
  have t4 : decide ((20 : Int) < d.size) = false := by simp; omega
  clear hH
  go_enter Try.func56, Try.ntmps56
  go_wp2_with fail
  refine wp_loop_rounds 1 ?_
  rw [rounds_succ]
  go_wp2_with fail
  refine hins.out.mono ?_
  rintro e w1 ⟨rfl, n, os, rfl⟩
  go_wp2_with fail
  refine wp_loop_rounds 1 ?_
  rw [rounds_succ]
  go_wp2_with fail
  all_goals (go_end0; exact ⟨rfl, n, os, rfl⟩)
set_option maxRecDepth 100000 in
set_option maxHeartbeats 1000000 in
theorem cal_stab0 (w : World) (v : Value) : Calls Try.prog 56 #[.slice none 0 0, .int .i64 0, v] w fun e w' => e = .returned (.tuple #[]) ∧ w' = w := by
  have hins := Lib.hid (cal_ins0 w v)
  go_enter Try.func56, Try.ntmps56
  go_wp2_with fail
  refine wp_loop_rounds 1 ?_
  rw [rounds_succ]
  go_wp2_with fail
  refine hins.out.mono ?_
  rintro e w1 ⟨rfl, rfl⟩
  go_wp2_with fail
  refine wp_loop_rounds 1 ?_
  rw [rounds_succ]
  go_wp2_with fail
  all_goals (go_end0; exact ⟨rfl, rfl⟩)
/-- what SortStableFunc makes of a row of one's own -/
def calS (l l' : List Cal) : Prop := ∀ (w : World) (B : Nat) (A : Option Addr) (c : Nat), w.ownsRow B 62 9 (.slice A l.length c) l.length (calVals l) →
  Calls Try.prog 37 #[.slice A l.length c, .func (.func 38) #[] #[]] w fun e w' =>
    e = .returned (.tuple #[]) ∧ w'.ownsRow B 62 9 (.slice A l.length c) l.length (calVals l') ∧ w.grownBy w' ((Value.slice A l.length c).ownBlock)
set_option maxRecDepth 100000 in
set_option maxHeartbeats 1000000 in
theorem cal_small (l : List Cal) (hz : l.length < 20) : calS l (Sort.insertionSort (ltOf calC) l.toArray 0 l.length).toList := by
  intro w B A c h
  rcases h.2 with ⟨h0, h1⟩ | ⟨g, cap', cur, hv, hB, hg, h1, h2, h3, h4⟩
  · injection h0 with hA hn hc
    subst hA hc
    have hl : l = [] := List.eq_nil_of_length_eq_zero hn
    subst hl
    have hst := Lib.hid (cal_stab0 w (.func (.func 38) #[] #[]))
    go_enter Try.func37, Try.ntmps37
    go_wp2_with fail
    refine hst.out.mono ?_
    rintro e w1 ⟨rfl, rfl⟩
    go_wp2_with fail
    go_end0
    have hs : (Sort.insertionSort (ltOf calC) ([] : List Cal).toArray 0 0).toList = [] := List.eq_nil_of_length_eq_zero (by rw [Array.length_toList, insS_size]; rfl)
    refine ⟨rfl, ?_, World.grownBy.refl _ _⟩
    show w1.ownsRow _ _ _ _ _ (calVals (Sort.insertionSort (ltOf calC) ([] : List Cal).toArray 0 0).toList)
    rw [hs]
    exact h
  · injection hv with hA _ hc
    subst hA hc
    have hH : HoldsK (fun x => calL x) 9 w g 0 l.toArray := row_holds (enc := fun x => calL x) (k := 9) (B := B) (t := 62) (fun _ => rfl) l.toArray h
    have hst := Lib.hid (cal_stab l.toArray g c w hH ((Array.getElem?_eq_some_iff.1 hg).1) (by simpa using hz))
    have O := Lib.hid h
    clear hH hg h h1 h2 h3 h4 cur
    go_enter Try.func37, Try.ntmps37
    go_wp2_with fail
    refine hst.out.mono ?_
    rintro e w1 ⟨rfl, n, os, rfl⟩
    go_wp2_with fail
    go_end0
    exact ⟨rfl, row_sorted (enc := fun x => calL x) (k := 9) (fun _ => rfl) l.toArray _ (by rw [insS_size]) O.out, sort_grown _⟩
end Go.Proofs.Ytjnmlgfkiebkgaa
