/-
  races.node.fill: a state copied into its picture.
-/
import Derived.Test.YtgbopmgeicokoaaMem0
import Derived.Test.YtgbopmgeicokoaaRw0
import Derived.Test.YtgbopmgeicokoaaCpd
import Derived.Test.YtgbopmgeicokoaaRst0
import Derived.Deep.RegionLaw
namespace Go.Proofs.Ytgbopmgeicokoaa
open Go.RowKit
set_option linter.unusedSimpArgs false
set_option linter.unusedVariables false

theorem natsI_one {l : List Nat} : ∀ u ∈ natsI l, u.oneCell' = true := by
  intro u hu
  obtain ⟨x, _, rfl⟩ := List.mem_map.1 hu
  rfl
theorem ints_oneF {l : List Int} : ∀ u ∈ ints l, u.oneCell' = true := by
  intro u hu
  obtain ⟨x, _, rfl⟩ := List.mem_map.1 hu
  rfl
theorem splice_at {α : Type} {p x r cs : List α} {k : Nat} (hp : p.length = k) (hc : cs.length ≤ x.length) : splice (p ++ (x ++ r)) k cs = p ++ ((cs ++ x.drop cs.length) ++ r) := by
  subst hp
  unfold splice
  rw [List.take_left', List.drop_append, List.drop_eq_nil_of_le (by omega), List.nil_append, show p.length + cs.length - p.length = cs.length by omega, List.drop_append_of_le_length hc, List.append_assoc]
  rfl
def FilR (gn : Nat) (h : SH) (n nw : Nat) (S : LS) (cs : List Value) (W : World) (e : Ending) (w' : World) : Prop := e = .returned (.tuple #[]) ∧ Blk w' gn 214 cs ∧ StAt w' h n nw S ∧ Fr (fun g => g = gn) W w'
theorem size_int1 : (Try.prog.info? 3).map (·.size) = some 1 := by kernel_rfl
theorem size_reg4 : (Try.prog.info? 173).map (·.size) = some 4 := by kernel_rfl
theorem StAt.gn {W W' : World} {h : SH} {n nw gn : Nat} {S : LS} {cs : List Value} (s : StAt W h n nw S) (hb : Blk W gn 214 cs) (hk : ∀ k, k ≠ gn → W'.heap[k]? = W.heap[k]?) : StAt W' h n nw S :=
  ⟨s.w.kept (hk _ (s.w.nb hb (by decide))), s.r.kept (hk _ (s.r.nb hb (by decide))), s.p.kept (hk _ (s.p.nb hb (by decide))), s.b.kept (hk _ (s.b.nb hb (by decide))), s.ne⟩
theorem add_cell {W : World} {g : Nat} {cs : List Value} (hc : ∀ j v, cs[j]? = some v → W.cell? ⟨g, j, none⟩ = some v) : ∀ j v, cs[j]? = some v → W.cell? ((⟨g, 0, none⟩ : Addr).add j) = some v := fun j v hv => by
  rw [Addr.add_mid, Nat.zero_add]
  exact hc j v hv

set_option maxRecDepth 100000 in
set_option maxHeartbeats 8000000 in
theorem fill_any (W : World) (gn : Nat) (h : SH) (n nw : Nat) (S : LS) (W6 R16 P4 rest : List Value) (hb : Blk W gn 214 (stL h n nw ++ (W6 ++ (R16 ++ (P4 ++ rest))))) (hs : StAt W h n nw S) (h6 : W6.length = 6) (h16 : R16.length = 16) (h4 : P4.length = 4) (hn : n ≤ 4) (hnw : nw ≤ 6) :
    Calls Try.prog 96 #[.pointer (some ⟨gn, 0, none⟩)] W (FilR gn h n nw S (stL h n nw ++ ((ints S.ws ++ W6.drop nw) ++ ((ints S.rs ++ R16.drop (n * 4)) ++ ((natsI S.ps ++ P4.drop n) ++ rest)))) W) := by
  have HB0 := Lib.hid hb
  have HS0 := Lib.hid hs
  have HF0 : Hid (Fr (fun g => g = gn) W W) := Fr.refl _ _
  clear hb hs
  have b6 : Int.toNat 6 = 6 := rfl
  go_enter Try.func96, Try.ntmps96
  -- W
  have s0 : W.cell? ⟨gn, 0, none⟩ = some (.slice (some ⟨h.gw, 0, none⟩) nw h.kw) := HB0.out.cell rfl
  have hl0 : (ints S.ws).length = nw * 1 := HS0.out.w.len
  have hf0 : (W6).length = 6 ∧ (R16).length = 16 ∧ (P4).length = 4 := ⟨h6, h16, h4⟩
  go_upto_region 0 with fail
  go_region_law ((refine step_copy_q (by rfl) _ _ 30 30 (by rfl) 3 1 nw Try.underlying30 size_int1 gn 4 6 6 ⟨h.gw, 0, none⟩ nw h.kw (by rfl) (by rfl) (stL h n nw ++ (W6 ++ (R16 ++ (P4 ++ rest)))) 214 (HB0.out) (ints S.ws) (by show min nw 6 = nw; omega) hl0 (add_cell (fun j v hv => HS0.out.w.cell hv)) (by simp only [List.length_append, hl0, hf0.1, hf0.2.1, hf0.2.2]; simp; omega) ints_oneF ?_; intro w1 hx1 hk1 hz1 ho1))
  have HB1 : Hid (Blk w1 gn 214 (stL h n nw ++ ((ints S.ws ++ W6.drop nw) ++ (R16 ++ (P4 ++ rest))))) := by
    have h9 := hx1.out
    have e9 : splice (stL h n nw ++ (W6 ++ (R16 ++ (P4 ++ rest)))) 4 (ints S.ws) = stL h n nw ++ ((ints S.ws ++ W6.drop nw) ++ (R16 ++ (P4 ++ rest))) := by
      have e8 := splice_at (p := stL h n nw) (x := W6) (r := R16 ++ (P4 ++ rest)) (cs := ints S.ws) (k := 4) rfl (by rw [hl0, h6]; omega)
      rw [hl0] at e8
      simp only [List.append_assoc, Nat.mul_one] at e8 ⊢
      exact e8
    rw [e9] at h9
    exact h9
  have HS1 := Lib.hid (HS0.out.gn HB0.out (W' := w1) (fun k hk => hk1 k hk))
  have HF1 : Hid (Fr (fun g => g = gn) W w1) := HF0.out.trans ⟨ho1.1, ho1.2.1, ho1.2.2, by rw [hz1]; exact Nat.le_refl _, fun g _ hg => hk1 g hg⟩
  clear s0 hx1 hk1 hz1 ho1
  -- R
  have s0 : w1.cell? ⟨gn, 1, none⟩ = some (.slice (some ⟨h.gr, 0, none⟩) n h.kr) := HB1.out.cell rfl
  have hl1 : (ints S.rs).length = n * 4 := HS1.out.r.len
  have hf1 : ((ints S.ws ++ W6.drop nw)).length = 6 ∧ (R16).length = 16 ∧ (P4).length = 4 := ⟨by rw [List.length_append, List.length_drop, hl0, h6]; omega, h16, h4⟩
  go_upto_region 1 with fail
  go_region_law ((refine step_copy_q (by rfl) _ _ 110 110 (by rfl) 173 4 n Try.underlying110 size_reg4 gn 10 4 4 ⟨h.gr, 0, none⟩ n h.kr (by rfl) (by rfl) (stL h n nw ++ ((ints S.ws ++ W6.drop nw) ++ (R16 ++ (P4 ++ rest)))) 214 (HB1.out) (ints S.rs) (by show min n 4 = n; omega) hl1 (add_cell (fun j v hv => HS1.out.r.cell hv)) (by simp only [List.length_append, hl1, hf1.1, hf1.2.1, hf1.2.2]; simp; omega) ints_oneF ?_; intro w2 hx2 hk2 hz2 ho2))
  have HB2 : Hid (Blk w2 gn 214 (stL h n nw ++ ((ints S.ws ++ W6.drop nw) ++ ((ints S.rs ++ R16.drop (n * 4)) ++ (P4 ++ rest))))) := by
    have h9 := hx2.out
    have e9 : splice (stL h n nw ++ ((ints S.ws ++ W6.drop nw) ++ (R16 ++ (P4 ++ rest)))) 10 (ints S.rs) = stL h n nw ++ ((ints S.ws ++ W6.drop nw) ++ ((ints S.rs ++ R16.drop (n * 4)) ++ (P4 ++ rest))) := by
      have e8 := splice_at (p := stL h n nw ++ (ints S.ws ++ W6.drop nw)) (x := R16) (r := P4 ++ rest) (cs := ints S.rs) (k := 10) (by simp only [List.length_append, hf1.1, hf1.2.1]; rfl) (by rw [hl1, h16]; omega)
      rw [hl1] at e8
      simp only [List.append_assoc, Nat.mul_one] at e8 ⊢
      exact e8
    rw [e9] at h9
    exact h9
  have HS2 := Lib.hid (HS1.out.gn HB1.out (W' := w2) (fun k hk => hk2 k hk))
  have HF2 : Hid (Fr (fun g => g = gn) W w2) := HF1.out.trans ⟨ho2.1, ho2.2.1, ho2.2.2, by rw [hz2]; exact Nat.le_refl _, fun g _ hg => hk2 g hg⟩
  clear s0 hx2 hk2 hz2 ho2
  -- P
  have s0 : w2.cell? ⟨gn, 2, none⟩ = some (.slice (some ⟨h.gp, 0, none⟩) n h.kp) := HB2.out.cell rfl
  have hl2 : (natsI S.ps).length = n * 1 := HS2.out.p.len
  have hf2 : ((ints S.ws ++ W6.drop nw)).length = 6 ∧ ((ints S.rs ++ R16.drop (n * 4))).length = 16 ∧ (P4).length = 4 := ⟨by rw [List.length_append, List.length_drop, hl0, h6]; omega, by rw [List.length_append, List.length_drop, hl1, h16]; omega, h4⟩
  go_upto_region 2 with fail
  go_region_law ((refine step_copy_q (by rfl) _ _ 30 30 (by rfl) 3 1 n Try.underlying30 size_int1 gn 26 4 4 ⟨h.gp, 0, none⟩ n h.kp (by rfl) (by rfl) (stL h n nw ++ ((ints S.ws ++ W6.drop nw) ++ ((ints S.rs ++ R16.drop (n * 4)) ++ (P4 ++ rest)))) 214 (HB2.out) (natsI S.ps) (by show min n 4 = n; omega) hl2 (add_cell (fun j v hv => HS2.out.p.cell hv)) (by simp only [List.length_append, hl2, hf2.1, hf2.2.1, hf2.2.2]; simp; omega) natsI_one ?_; intro w3 hx3 hk3 hz3 ho3))
  have HB3 : Hid (Blk w3 gn 214 (stL h n nw ++ ((ints S.ws ++ W6.drop nw) ++ ((ints S.rs ++ R16.drop (n * 4)) ++ ((natsI S.ps ++ P4.drop n) ++ rest))))) := by
    have h9 := hx3.out
    have e9 : splice (stL h n nw ++ ((ints S.ws ++ W6.drop nw) ++ ((ints S.rs ++ R16.drop (n * 4)) ++ (P4 ++ rest)))) 26 (natsI S.ps) = stL h n nw ++ ((ints S.ws ++ W6.drop nw) ++ ((ints S.rs ++ R16.drop (n * 4)) ++ ((natsI S.ps ++ P4.drop n) ++ rest))) := by
      have e8 := splice_at (p := stL h n nw ++ (ints S.ws ++ W6.drop nw) ++ (ints S.rs ++ R16.drop (n * 4))) (x := P4) (r := rest) (cs := natsI S.ps) (k := 26) (by simp only [List.length_append, hf2.1, hf2.2.1]; rfl) (by rw [hl2, h4]; omega)
      rw [hl2] at e8
      simp only [List.append_assoc, Nat.mul_one] at e8 ⊢
      exact e8
    rw [e9] at h9
    exact h9
  have HS3 := Lib.hid (HS2.out.gn HB2.out (W' := w3) (fun k hk => hk3 k hk))
  have HF3 : Hid (Fr (fun g => g = gn) W w3) := HF2.out.trans ⟨ho3.1, ho3.2.1, ho3.2.2, by rw [hz3]; exact Nat.le_refl _, fun g _ hg => hk3 g hg⟩
  clear s0 hx3 hk3 hz3 ho3
  go_wp2_with fail
  go_end0
  exact ⟨rfl, HB3.out, HS3.out, HF3.out⟩
end Go.Proofs.Ytgbopmgeicokoaa
