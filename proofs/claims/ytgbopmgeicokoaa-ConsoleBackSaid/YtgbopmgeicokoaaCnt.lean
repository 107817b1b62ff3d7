/-
  Counts in bytes: plain, the program's and the reference's.
-/
import Derived.Test.YtgbopmgeicokoaaCrc
import Derived.Test.YtgbopmgeicokoaaApp0
namespace Go.Proofs.Ytgbopmgeicokoaa
open Go.RowKit

/-- a count: seven bits a byte -/
def cntF : Nat → Nat → List Nat
  | 0, n => [n % 256]
  | k + 1, n => if n < 128 then [n] else (n % 128 + 128) :: cntF k (n / 128)
def cnt (n : Nat) : List Nat := cntF 10 n
/-- a signed number as a count -/
def sgn (n : Int) : Nat := if 0 ≤ n then 2 * n.toNat else 2 * (-(n + 1)).toNat + 1
theorem cntF_lt {k m : Nat} (hm : m < 128) : cntF k m = [m] := by
  cases k with
  | zero => show [m % 256] = [m]; rw [Nat.mod_eq_of_lt (by omega)]
  | succ k => show (if m < 128 then [m] else _) = _; rw [if_pos hm]
theorem cntF_ge {k m : Nat} (hm : ¬ m < 128) : cntF (k + 1) m = (m % 128 + 128) :: cntF k (m / 128) := by
  show (if m < 128 then [m] else _) = _
  rw [if_neg hm]
theorem cntF_len : ∀ (k m : Nat), (cntF k m).length ≤ k + 1
  | 0, m => Nat.le_refl _
  | k + 1, m => by
    by_cases hm : m < 128
    · rw [cntF_lt hm]; simp
    · rw [cntF_ge hm, List.length_cons]
      have := cntF_len k (m / 128)
      omega
theorem cntF_byte : ∀ (k m : Nat), ∀ x ∈ cntF k m, x < 256
  | 0, m, x, h => by simp [cntF] at h; omega
  | k + 1, m, x, h => by
    by_cases hm : m < 128
    · rw [cntF_lt hm] at h; simp at h; omega
    · rw [cntF_ge hm] at h
      rcases List.mem_cons.1 h with rfl | h
      · omega
      · exact cntF_byte k (m / 128) x h
theorem cnt_len (m : Nat) : (cnt m).length ≤ 11 := cntF_len 10 m
theorem cnt_byte (m : Nat) : ∀ x ∈ cnt m, x < 256 := cntF_byte 10 m
theorem u64_wrap' (n : Int) : IntKind.u64.wrap n = n % 18446744073709551616 := by simp [IntKind.wrap, IntKind.bits, IntKind.signed]
theorem or128 (x : Nat) (h : x < 256) : x ||| 128 = x % 128 + 128 := by
  have := (by decide +kernel : ∀ i : Fin 256, i.val ||| 128 = i.val % 128 + 128) ⟨x, h⟩
  exact this
theorem u8s_one {l : List Nat} : ∀ u ∈ u8s l, u.oneCell' = true := by
  intro u hu
  obtain ⟨x, _, rfl⟩ := List.mem_map.1 hu
  rfl
theorem u8s_app (l l' : List Nat) : u8s (l ++ l') = u8s l ++ u8s l' := by simp [u8s]
theorem u8s_len (l : List Nat) : (u8s l).length = l.length := by simp [u8s]
theorem info_u8 : (Try.prog.info? 5).map (fun i => (i.zero, i.size, i.bytes)) = some (some (.int .u8 0), 1, 1) := by kernel_rfl

/-- all that has turned is a row of the call's own (u's), which lies now in v's -/
structure Grew (w w' : World) (u v : Value) : Prop where
  gb : w.grownBy w' u.ownBlock
  at_ : v.ownBlock = u.ownBlock ∨ ∃ g, v.ownBlock = some g ∧ w.heap.size ≤ g
theorem Grew.refl (w : World) (u : Value) : Grew w w u u := ⟨World.grownBy.refl w _, Or.inl rfl⟩
theorem Grew.trans {a b c : World} {u v x : Value} (h : Grew a b u v) (h2 : Grew b c v x) : Grew a c u x := by
  refine ⟨⟨h2.gb.os.trans h.gb.os, h2.gb.tape.trans h.gb.tape, h2.gb.output.trans h.gb.output, Nat.le_trans h.gb.size h2.gb.size, fun i hi hne => ?_⟩, ?_⟩
  · refine (h2.gb.block i (Nat.lt_of_lt_of_le hi h.gb.size) (fun he => ?_)).trans (h.gb.block i hi hne)
    rcases h.at_ with h3 | ⟨g, h3, h4⟩
    · exact hne (he.trans h3)
    · rw [h3] at he
      injection he with he
      omega
  · rcases h2.at_ with h3 | ⟨g, h3, h4⟩
    · rcases h.at_ with h5 | ⟨g, h5, h6⟩
      · exact Or.inl (h3.trans h5)
      · exact Or.inr ⟨g, h3.trans h5, h6⟩
    · exact Or.inr ⟨g, h3, Nat.le_trans h.gb.size h4⟩
theorem Grew.below {a b c : World} {u v : Value} (h : Grew a b u v) (hb : Below b.heap.size b c) : Grew a c u v :=
  h.trans ⟨⟨hb.os, hb.tape, hb.output, hb.size, fun i hi _ => hb.block i hi⟩, Or.inl rfl⟩
theorem Grew.app {w w1 : World} {o : Obj} {u v : Value} (hg : (w.alloc o).grownBy w1 u.ownBlock) (hat : v.ownBlock = u.ownBlock ∨ v.ownBlock = some (w.alloc o).heap.size) : Grew w w1 u v := by
  refine ⟨World.grownBy.trans (World.grownBy_alloc _ _ _) hg, ?_⟩
  rcases hat with h | h
  · exact Or.inl h
  · exact Or.inr ⟨_, h, by rw [World.size_alloc]; omega⟩
/-- from nil: nothing that was there turns -/
theorem Grew.bel {w w' : World} {v : Value} {k : Nat} (h : Grew w w' (.slice none 0 k) v) : Below w.heap.size w w' := ⟨h.gb.os, h.gb.tape, h.gb.output, h.gb.size, fun i hi => h.gb.block i hi (by simp [Value.ownBlock])⟩
/-- bytes in a row of the call's own -/
abbrev Bts (w : World) (B : Nat) (v : Value) (l : List Nat) : Prop := w.ownsRow B 5 1 v l.length (u8s l)

theorem bts_app {w : World} {B N : Nat} {v : Value} {l l' : List Nat} (h : w.ownsRow B 5 1 v N (u8s l ++ u8s l')) (hN : N = l.length + l'.length) : Bts w B v (l ++ l') := by
  subst hN
  show w.ownsRow B 5 1 v (l ++ l').length (u8s (l ++ l'))
  rw [u8s_app, List.length_append]
  exact h
def CntR (B : Nat) (v : Value) (l : List Nat) (w : World) (e : Ending) (w' : World) : Prop := ∃ A k, e = .returned (.slice A l.length k) ∧ Bts w' B (.slice A l.length k) l ∧ Grew w w' v (.slice A l.length k)

set_option maxRecDepth 100000 in
set_option maxHeartbeats 4000000 in
theorem pcount_any (B : Nat) (v : Value) (xs : List Nat) (m : Nat) (w : World) (h : Bts w B v xs) (hB : B ≤ w.heap.size) (hm : m < 18446744073709551616) (hx : xs.length ≤ 70368744177664) :
    Calls Try.prog 72 #[v, .int .u64 m] w (CntR B v (xs ++ cnt m) w) := by
  obtain ⟨i1, hi1, hi1z, hi1s, hi1b⟩ := info_parts info_u8
  have H0 := Lib.hid h
  obtain ⟨u, hu⟩ : ∃ u, u = v := ⟨_, rfl⟩
  have HU := Lib.hid hu
  clear h hu
  go_enter Try.func72, Try.ntmps72
  go_wp2_with fail
  go_loopg [0, 1] 10 (fun gk v0 i wr => ∃ (q : Nat) (pre : List Nat) (u' : Value), q < 128 ^ gk ∧ i = .int .u64 q ∧ u' = v0 ∧ pre.length + gk = 10 ∧ B ≤ wr.heap.size ∧ q < 18446744073709551616 ∧ Hid (Bts wr B u' (xs ++ pre)) ∧ Hid (Grew w wr u u') ∧ Hid (pre ++ cntF gk q = cnt m))
  case atStart => exact ⟨m, [], v, by omega, rfl, rfl, rfl, hB, hm, by rw [List.append_nil]; exact H0.out, by rw [HU.out]; exact Grew.refl w v, rfl⟩
  case round =>
    obtain ⟨q, pre, u', hq, rfl, rfl, hp, hBr, hq64, HO, HG, HC⟩ := hrel
    have hl : (xs ++ pre).length ≤ 70368744177674 := by rw [List.length_append]; omega
    by_cases hlt : q < 128
    · have d1 : decide (128 ≤ (q : Int)) = false := by simp; omega
      have d2 : ¬ 128 ≤ (q : Int) := by omega
      have d3 : decide (128 ≤ q) = false := by simp; omega
      have d4 : ¬ 128 ≤ q := by omega
      have b1 : IntKind.u8.wrap (q : Int) = q := by rw [IntKind.wrap_u8']; omega
      have HE := Lib.hid (show xs ++ cnt m = (xs ++ pre) ++ [q] by rw [← HC.out, cntF_lt hlt, List.append_assoc])
      obtain ⟨pl, hpl⟩ : ∃ pl, pl = xs ++ pre := ⟨_, rfl⟩
      rw [← hpl] at HO HE hl
      clear hpl HC
      go_wp2_with (at_builtin; go_must (refine wpList_app _ rfl _ _ 77 rfl B 5 i1 (.int .u8 0) 1 1 Try.underlying77 hi1 hi1z hi1s hi1b rfl (by decide) u' pl.length _ rfl (HO.out.alloc _) (wr.heap.size + 1) (some ⟨wr.heap.size, 0, none⟩) 1 1 (u8s [q]) rfl (((Blk.new wr 5 _).sl rfl).up (by simp)) u8s_one (pl.length + 1) rfl _ rfl _ rfl (by simp only [maxLen]; omega) (by omega) (by rw [World.size_alloc]; omega) ?_; intro A7 k7 w7 hown7 hg7 hat7 hk7 hk8))
      go_ret
      refine ⟨A7, k7, ?_, ?_, ?_⟩
      · rw [HE.out, List.length_append]; rfl
      · rw [HE.out, List.length_append]; exact bts_app hown7 rfl
      · rw [HE.out, List.length_append]
        rw [← HU.out]
        exact HG.out.trans (Grew.app hg7 hat7)
    · have d1 : decide (128 ≤ (q : Int)) = true := by simp; omega
      have d2 : 128 ≤ (q : Int) := by omega
      have d3 : decide (128 ≤ q) = true := by simp; omega
      have d4 : 128 ≤ q := by omega
      obtain ⟨r, hr⟩ : ∃ r, r = q % 128 + 128 := ⟨_, rfl⟩
      have b1 : IntKind.u8.wrap (q : Int) = (q : Int) % 256 := IntKind.wrap_u8' _
      have b2 : bits .or .u8 ((q : Int) % 256) 128 = (r : Int) := by
        have := u8_or_nat (q % 256) 128 (by omega) (by omega)
        rw [or128 _ (by omega), show q % 256 % 128 = q % 128 by omega, ← hr] at this
        rw [← this, Int.natCast_emod]
        rfl
      have HR := Lib.hid hr
      have hgk : 0 < gk := by
        rcases Nat.eq_zero_or_pos gk with h0 | h0
        · subst h0; simp at hq; omega
        · exact h0
      obtain ⟨pl, hpl⟩ : ∃ pl, pl = xs ++ pre := ⟨_, rfl⟩
      rw [← hpl] at HO hl
      have HPL := Lib.hid hpl
      clear hpl
      have hq2 : q / 128 < 128 ^ (gk - 1) := by
        refine Nat.div_lt_of_lt_mul ?_
        rw [← Nat.pow_succ', show (gk - 1).succ = gk by omega]
        exact hq
      have HC2 := Lib.hid (show (pre ++ [r]) ++ cntF (gk - 1) (q / 128) = cnt m by
        have h9 := HC.out
        rw [show gk = (gk - 1) + 1 by omega, cntF_ge hlt, ← HR.out] at h9
        rw [List.append_assoc]
        exact h9)
      have HQ := Lib.hid hq2
      clear HC hq hq2 hr
      go_wp2_with (at_builtin; go_must (refine wpList_app _ rfl _ _ 77 rfl B 5 i1 (.int .u8 0) 1 1 Try.underlying77 hi1 hi1z hi1s hi1b rfl (by decide) u' pl.length _ rfl (HO.out.alloc _) (wr.heap.size + 1) (some ⟨wr.heap.size, 0, none⟩) 1 1 (u8s [r]) rfl (((Blk.new wr 5 _).sl rfl).up (by simp)) u8s_one (pl.length + 1) rfl _ rfl _ rfl (by simp only [maxLen]; omega) (by omega) (by rw [World.size_alloc]; omega) ?_; intro A7 k7 w7 hown7 hg7 hat7 hk7 hk8))
      have hz7 := hg7.size
      go_roundg (gk - 1)
      case measure => omega
      case rel =>
        refine ⟨q / 128, pre ++ [r], _, HQ.out, by simp, rfl, by rw [List.length_append]; simp; omega, by rw [World.size_alloc] at hz7; omega, by omega, ?_, HG.out.trans (Grew.app hg7 hat7), HC2.out⟩
        rw [← List.append_assoc, ← HPL.out]
        exact bts_app hown7 rfl
/-- new memory that holds bytes -/
def NewB (l : List Nat) (w : World) (e : Ending) (w' : World) : Prop := ∃ A k, e = .returned (.slice A l.length k) ∧ Bts w' w.heap.size (.slice A l.length k) l ∧ Below w.heap.size w w'

set_option maxRecDepth 100000 in
set_option maxHeartbeats 4000000 in
theorem rcount_any (m : Nat) (w : World) (hm : m < 18446744073709551616) : Calls Try.prog 80 #[.int .u64 m] w (NewB (cnt m) w) := by
  obtain ⟨i1, hi1, hi1z, hi1s, hi1b⟩ := info_parts info_u8
  go_enter Try.func80, Try.ntmps80
  go_wp2_with fail
  go_loopg [0, 3] 10 (fun gk i v0 wr => ∃ (q : Nat) (pre : List Nat) (u' : Value), q < 128 ^ gk ∧ i = .int .u64 q ∧ u' = v0 ∧ pre.length + gk = 10 ∧ w.heap.size ≤ wr.heap.size ∧ q < 18446744073709551616 ∧ Hid (Bts wr w.heap.size u' pre) ∧ Hid (Below w.heap.size w wr) ∧ Hid (pre ++ cntF gk q = cnt m))
  case atStart => exact ⟨m, [], .slice none 0 0, by omega, rfl, rfl, rfl, Nat.le_refl _, hm, World.ownsRow_nil _ _ _ _, Below.refl _ _, rfl⟩
  case round =>
    obtain ⟨q, pre, u', hq, rfl, rfl, hp, hBr, hq64, HO, HG, HC⟩ := hrel
    have hl : pre.length ≤ 70368744177674 := by omega
    by_cases hlt : q < 128
    · have d1 : decide (128 ≤ (q : Int)) = false := by simp; omega
      have d2 : ¬ 128 ≤ (q : Int) := by omega
      have d3 : decide (128 ≤ q) = false := by simp; omega
      have d4 : ¬ 128 ≤ q := by omega
      have b1 : IntKind.u8.wrap (q : Int) = q := by rw [IntKind.wrap_u8']; omega
      have HE := Lib.hid (show cnt m = pre ++ [q] by rw [← HC.out, cntF_lt hlt])
      obtain ⟨pl, hpl⟩ : ∃ pl, pl = pre := ⟨_, rfl⟩
      rw [← hpl] at HO HE hl
      clear hpl HC
      go_wp2_with (at_builtin; go_must (refine wpList_app _ rfl _ _ 77 rfl w.heap.size 5 i1 (.int .u8 0) 1 1 Try.underlying77 hi1 hi1z hi1s hi1b rfl (by decide) u' pl.length _ rfl (HO.out.alloc _) (wr.heap.size + 1) (some ⟨wr.heap.size, 0, none⟩) 1 1 (u8s [q]) rfl (((Blk.new wr 5 _).sl rfl).up (by simp)) u8s_one (pl.length + 1) rfl _ rfl _ rfl (by simp only [maxLen]; omega) (by omega) (by rw [World.size_alloc]; omega) ?_; intro A7 k7 w7 hown7 hg7 hat7 hk7 hk8))
      go_ret
      refine ⟨A7, k7, ?_, ?_, ?_⟩
      · rw [HE.out, List.length_append]; rfl
      · rw [HE.out, List.length_append]; exact bts_app hown7 rfl
      · exact (HG.out.alloc hBr _).grown hg7 (by rw [World.size_alloc]; omega) (fun g hg => (HO.out.lt g hg).1)
    · have d1 : decide (128 ≤ (q : Int)) = true := by simp; omega
      have d2 : 128 ≤ (q : Int) := by omega
      have d3 : decide (128 ≤ q) = true := by simp; omega
      have d4 : 128 ≤ q := by omega
      obtain ⟨r, hr⟩ : ∃ r, r = q % 128 + 128 := ⟨_, rfl⟩
      have b1 : (q : Int) % 128 + 128 = (r : Int) := by omega
      have b2 : r < 256 := by omega
      have HR := Lib.hid hr
      have hgk : 0 < gk := by
        rcases Nat.eq_zero_or_pos gk with h0 | h0
        · subst h0; simp at hq; omega
        · exact h0
      obtain ⟨pl, hpl⟩ : ∃ pl, pl = pre := ⟨_, rfl⟩
      rw [← hpl] at HO hl
      have HPL := Lib.hid hpl
      clear hpl
      have hq2 : q / 128 < 128 ^ (gk - 1) := by
        refine Nat.div_lt_of_lt_mul ?_
        rw [← Nat.pow_succ', show (gk - 1).succ = gk by omega]
        exact hq
      have HC2 := Lib.hid (show (pre ++ [r]) ++ cntF (gk - 1) (q / 128) = cnt m by
        have h9 := HC.out
        rw [show gk = (gk - 1) + 1 by omega, cntF_ge hlt, ← HR.out] at h9
        rw [List.append_assoc]
        exact h9)
      have HQ := Lib.hid hq2
      clear HC hq hq2 hr
      go_wp2_with (at_builtin; go_must (refine wpList_app _ rfl _ _ 77 rfl w.heap.size 5 i1 (.int .u8 0) 1 1 Try.underlying77 hi1 hi1z hi1s hi1b rfl (by decide) u' pl.length _ rfl (HO.out.alloc _) (wr.heap.size + 1) (some ⟨wr.heap.size, 0, none⟩) 1 1 (u8s [r]) rfl (((Blk.new wr 5 _).sl rfl).up (by simp)) u8s_one (pl.length + 1) rfl _ rfl _ rfl (by simp only [maxLen]; omega) (by omega) (by rw [World.size_alloc]; omega) ?_; intro A7 k7 w7 hown7 hg7 hat7 hk7 hk8))
      have hz7 := hg7.size
      go_roundg (gk - 1)
      case measure => omega
      case rel =>
        refine ⟨q / 128, pre ++ [r], _, HQ.out, by simp, rfl, by rw [List.length_append]; simp; omega, by rw [World.size_alloc] at hz7; omega, by omega, ?_, (HG.out.alloc hBr _).grown hg7 (by rw [World.size_alloc]; omega) (fun g hg => (HO.out.lt g hg).1), HC2.out⟩
        rw [← HPL.out]
        exact bts_app hown7 rfl

theorem sgn_lt {n : Int} (h : -9223372036854775808 ≤ n ∧ n ≤ 9223372036854775807) : sgn n < 18446744073709551616 := by
  unfold sgn
  split <;> omega
set_option maxRecDepth 100000 in
set_option maxHeartbeats 4000000 in
theorem rsigned_any (n : Int) (w : World) (hn : -9223372036854775808 ≤ n ∧ n ≤ 9223372036854775807) : Calls Try.prog 81 #[.int .i64 n] w fun e w' => e = .returned (.int .u64 (sgn n)) ∧ w' = w := by
  obtain ⟨m, hm⟩ : ∃ m, m = sgn n := ⟨_, rfl⟩
  have hs := hm
  unfold sgn at hs
  have HM := Lib.hid hm
  have h1 := hn.1
  have h2 := hn.2
  clear hm hn
  rw [← HM.out]
  by_cases h0 : 0 ≤ n
  · rw [if_pos h0] at hs
    have d1 : decide (0 ≤ n) = true := by simp [h0]
    have b1 : IntKind.u64.wrap n = n := by rw [u64_wrap']; omega
    have b2 : 2 * n = (m : Int) := by omega
    have b3 : (m : Int) ≤ 18446744073709551615 := by omega
    have b4 : IntKind.u64.wrap (m : Int) = m := by rw [u64_wrap']; omega
    clear hs
    go_enter Try.func81, Try.ntmps81
    go_wp2_with fail
    go_ret
    exact ⟨rfl, rfl⟩
  · rw [if_neg h0] at hs
    have d1 : decide (0 ≤ n) = false := by simp [h0]
    obtain ⟨z, hz⟩ : ∃ z : Nat, -(n + 1) = (z : Int) := ⟨(-(n + 1)).toNat, by omega⟩
    have b1 : IntKind.i64.wrap (n + 1) = n + 1 := IntWalk.i64_in _ (by omega)
    have b2 : IntKind.i64.wrap (-(n + 1)) = z := by rw [hz]; exact IntWalk.i64_in _ (by omega)
    have b3 : IntKind.u64.wrap (z : Int) = z := by rw [u64_wrap']; omega
    have b4 : IntKind.u64.wrap (2 * (z : Int)) = 2 * (z : Int) := by rw [u64_wrap']; omega
    have b5 : 2 * (z : Int) + 1 = (m : Int) := by omega
    have b6 : IntKind.u64.wrap (m : Int) = m := by rw [u64_wrap']; omega
    have b7 : IntKind.u64.wrap (2 * (z : Int) + 1) = (m : Int) := by rw [b5, b6]
    clear hs
    go_enter Try.func81, Try.ntmps81
    go_wp2_with fail
    go_ret
    exact ⟨rfl, rfl⟩
set_option maxRecDepth 100000 in
set_option maxHeartbeats 4000000 in
theorem psigned_any (B : Nat) (v : Value) (xs : List Nat) (n : Int) (w : World) (h : Bts w B v xs) (hB : B ≤ w.heap.size) (hn : -9223372036854775808 ≤ n ∧ n ≤ 9223372036854775807) (hx : xs.length ≤ 70368744177664) :
    Calls Try.prog 73 #[v, .int .i64 n] w (CntR B v (xs ++ cnt (sgn n)) w) := by
  have hlt := sgn_lt hn
  have H0 := Lib.hid h
  obtain ⟨m, hm⟩ : ∃ m, m = sgn n := ⟨_, rfl⟩
  have hs := hm
  unfold sgn at hs
  have HM := Lib.hid hm
  have h1 := hn.1
  have h2 := hn.2
  rw [← hm] at hlt ⊢
  obtain ⟨ys, hys⟩ : ∃ ys, ys = xs ++ cnt m := ⟨_, rfl⟩
  rw [← hys]
  have HP := Lib.hid (show ∀ W, Bts W B v xs → B ≤ W.heap.size → Calls Try.prog 72 #[v, .int .u64 m] W (CntR B v ys W) from fun W h1 h2 => by rw [hys]; exact pcount_any B v xs m W h1 h2 hlt hx)
  clear hm hn h hys
  by_cases h0 : 0 ≤ n
  · rw [if_pos h0] at hs
    have d1 : decide (0 ≤ n) = true := by simp [h0]
    have b1 : IntKind.u64.wrap n = n := by rw [u64_wrap']; omega
    have b2 : 2 * n = (m : Int) := by omega
    have b3 : (m : Int) ≤ 18446744073709551615 := by omega
    have b4 : IntKind.u64.wrap (m : Int) = m := by rw [u64_wrap']; omega
    clear hs
    go_enter Try.func73, Try.ntmps73
    go_wp2_with fail
    refine (HP.out _ H0.out hB).mono ?_
    rintro e w1 ⟨A, k, rfl, hb, hg⟩
    go_wp2_with fail
    go_ret
    exact ⟨A, k, rfl, hb, hg⟩
  · rw [if_neg h0] at hs
    have d1 : decide (0 ≤ n) = false := by simp [h0]
    obtain ⟨z, hz⟩ : ∃ z : Nat, -(n + 1) = (z : Int) := ⟨(-(n + 1)).toNat, by omega⟩
    have b1 : IntKind.i64.wrap (n + 1) = n + 1 := IntWalk.i64_in _ (by omega)
    have b2 : IntKind.i64.wrap (-(n + 1)) = z := by rw [hz]; exact IntWalk.i64_in _ (by omega)
    have b3 : IntKind.u64.wrap (z : Int) = z := by rw [u64_wrap']; omega
    have b4 : IntKind.u64.wrap (2 * (z : Int)) = 2 * (z : Int) := by rw [u64_wrap']; omega
    have b5 : 2 * (z : Int) + 1 = (m : Int) := by omega
    have b6 : IntKind.u64.wrap (m : Int) = m := by rw [u64_wrap']; omega
    have b7 : IntKind.u64.wrap (2 * (z : Int) + 1) = (m : Int) := by rw [b5, b6]
    clear hs
    go_enter Try.func73, Try.ntmps73
    go_wp2_with fail
    refine (HP.out _ H0.out hB).mono ?_
    rintro e w1 ⟨A, k, rfl, hb, hg⟩
    go_wp2_with fail
    go_ret
    exact ⟨A, k, rfl, hb, hg⟩
end Go.Proofs.Ytgbopmgeicokoaa
