/-
  console.Load.
-/
import Derived.Test.YtgbopmgeicokoaaSames
import Derived.Test.YtgbopmgeicokoaaCop
import Derived.Deep.CutBlock
import Derived.Deep.DeepCutAuto
import Derived.BigQuiet
namespace Go.Proofs.Ytgbopmgeicokoaa
open Go.RowKit

/-- the session of bytes, its moves in memory of its own -/
def LdR (r : Ld) (w : World) (e : Ending) (w' : World) : Prop :=
  ∃ A k, e = .returned (.tuple #[sesV r.2.1 (.slice A r.2.2.length k), .int .i64 r.1]) ∧ w'.ownsRow w.heap.size 95 4 (.slice A r.2.2.length k) r.2.2.length (mvVals r.2.2) ∧ Below w.heap.size w w'
theorem LdR.no {r : Ld} {c : Int} {w w' : World} (h : Below w.heap.size w w') (hr : r = noLd c) : LdR r w (.returned (.tuple #[.agg #[.int .i64 0, .int .i64 0, .int .i64 0, .int .i64 0, .int .i64 0, .int .i64 0, .int .i64 0, .int .i64 0, .int .i64 0, .int .i64 0, .int .i64 0, .int .i64 0, .int .i64 0, .int .i64 0, .int .i64 0, .int .i64 0, .slice none 0 0], .int .i64 c])) w' := by
  subst hr
  exact ⟨none, 0, rfl, World.ownsRow_nil _ _ _ _, h⟩
theorem loadP_inl {l : List Nat} {e : Int} (h : headL l = .inl e) : loadP l = noLd e := by unfold loadP; rw [h]
theorem head_long {l : List Nat} (h : 4194304 < l.length) : headL l = .inl 3 := by unfold headL; rw [if_pos h]
theorem head_img {l : List Nat} (h : ¬ 4194304 < l.length) (h2 : l.length < 9 ∨ l.take 4 ≠ [82, 67, 76, 1]) : headL l = .inl 281 := by unfold headL; rw [if_neg h, if_pos h2]

theorem head_sum {l : List Nat} (h : ¬ 4194304 < l.length) (h2 : ¬ (l.length < 9 ∨ l.take 4 ≠ [82, 67, 76, 1])) (h3 : l.drop (l.length - 4) ≠ leB (crcS (l.take (l.length - 4))) 4) : headL l = .inl 282 := by
  unfold headL
  rw [if_neg h, if_neg h2, if_pos h3]
theorem head_kind {l : List Nat} (h : ¬ 4194304 < l.length) (h2 : ¬ (l.length < 9 ∨ l.take 4 ≠ [82, 67, 76, 1])) (h3 : ¬ (l.drop (l.length - 4) ≠ leB (crcS (l.take (l.length - 4))) 4)) (h4 : manyN (l[4]?.getD 0) = 0) : headL l = .inl 281 := by
  unfold headL
  rw [if_neg h, if_neg h2, if_neg h3, if_pos h4]
theorem RdAt.below {w w' : World} {B gr n k : Nat} {t : TypeId} {A : Option Addr} {s : Rs} (h : RdAt w B gr t A n k s) (hb : Below w.heap.size w w') : RdAt w' B gr t A n k s := ⟨h.blk.below hb h.blk.lt, by
  refine ⟨h.sl.1, fun hn => ?_⟩
  obtain ⟨b, o, e, hbb, hc⟩ := h.sl.2 hn
  exact ⟨b, o, e, hbb, fun j u hu => (hb.cell (p := ⟨b, o + j, none⟩) (World.block_lt_of_cell? w _ (hc j u hu))).trans (hc j u hu)⟩, h.nk, h.km, h.by8⟩
theorem RdAt.set {w w' : World} {B gr n k g : Nat} {t : TypeId} {A : Option Addr} {s : Rs} (h : RdAt w B gr t A n k s) (hg : w.grownBy w' (some g)) (hB : B ≤ g) (hne : gr ≠ g) : RdAt w' B gr t A n k s := ⟨h.blk.grown hg (by intro he; injection he with he; exact hne he), by
  refine ⟨h.sl.1, fun hn => ?_⟩
  obtain ⟨b, o, e, hbb, hc⟩ := h.sl.2 hn
  exact ⟨b, o, e, hbb, fun j u hu => (World.cell?_of_block (a := ⟨b, o + j, none⟩) (hg.block b (World.block_lt_of_cell? w _ (hc j u hu)) (by intro he; injection he with he; omega))).trans (hc j u hu)⟩, h.nk, h.km, h.by8⟩
theorem RdAt.gb {w w' : World} {B gr n k : Nat} {t : TypeId} {A : Option Addr} {s : Rs} {row : Option Nat} (h : RdAt w B gr t A n k s) (hg : w.grownBy w' row) (hr : ∀ x, row = some x → B ≤ x ∧ gr ≠ x) : RdAt w' B gr t A n k s := ⟨h.blk.grown hg (by intro he; exact (hr gr he.symm).2 rfl), by
  refine ⟨h.sl.1, fun hn => ?_⟩
  obtain ⟨b, o, e, hbb, hc⟩ := h.sl.2 hn
  exact ⟨b, o, e, hbb, fun j u hu => (World.cell?_of_block (a := ⟨b, o + j, none⟩) (hg.block b (World.block_lt_of_cell? w _ (hc j u hu)) (by intro he; have := (hr b he.symm).1; omega))).trans (hc j u hu)⟩, h.nk, h.km, h.by8⟩
/-- numbers laid at their places -/
def putL (cs : List Value) (os ns : List Nat) : List Value := (os.zip ns).foldl (fun c p => c.set p.1 (.int .i64 p.2)) cs
theorem putL_len (cs : List Value) (os ns : List Nat) : (putL cs os ns).length = cs.length := by
  unfold putL
  generalize os.zip ns = l
  induction l generalizing cs with
  | nil => rfl
  | cons p l ih => rw [List.foldl_cons, ih, List.length_set]
theorem putL_snoc (cs : List Value) {os ns : List Nat} {q o : Nat} (ho : os[q]? = some o) (hn : ns.length = q) (hq : q ≤ os.length) (z : Nat) : putL cs (os.take (q + 1)) (ns ++ [z]) = (putL cs (os.take q) ns).set o (.int .i64 z) := by
  unfold putL
  rw [take_snoc ho, List.zip_append (by rw [List.length_take, hn]; omega), List.foldl_append]
  rfl
theorem offs_lt (s : Ses) : ∀ x ∈ offsL s, x < 17 ∧ 1 ≤ x := by
  unfold offsL
  intro x hx
  repeat' split at hx
  all_goals simp at hx
  all_goals omega
theorem offs_many {kk : Nat} (h : 1 ≤ kk) (h2 : kk ≤ 6) : (offsL ⟨kk, ⟨0, 0, 0, 0, 0, 0, 0⟩, 0, 0, 0, 0, 0, 0, 0, 0⟩).length = manyN kk := by
  have : kk = 1 ∨ kk = 2 ∨ kk = 3 ∨ kk = 4 ∨ kk = 5 ∨ kk = 6 := by omega
  rcases this with rfl | rfl | rfl | rfl | rfl | rfl <;> decide
theorem many_ne {kk : Nat} (h : 1 ≤ kk) (h2 : kk ≤ 6) : ¬ manyN kk = 0 := by
  unfold manyN
  by_cases h3 : kk = 1 ∨ kk = 2
  · rw [if_pos h3]; decide
  · rw [if_neg h3, if_pos (by omega)]; decide
theorem many_le (kk : Nat) : manyN kk ≤ 7 := by
  unfold manyN
  by_cases h1 : kk = 1 ∨ kk = 2
  · rw [if_pos h1]; exact Nat.le_refl _
  · rw [if_neg h1]
    by_cases h2 : 3 ≤ kk ∧ kk ≤ 6
    · rw [if_pos h2]; decide
    · rw [if_neg h2]; decide
theorem cntP_le : ∀ {l : List Nat} {i n m : Nat} {l' : List Nat}, cntP i n l = some (m, l') → l'.length ≤ l.length
  | [], _, _, _, _, h => by cases h
  | x :: l, i, n, m, l', h => by
    by_cases hb : 9 < i ∨ (i = 9 ∧ 1 < x) ∨ (0 < i ∧ x = 0)
    · rw [cntP_bad hb] at h; cases h
    · by_cases hx : x < 128
      · rw [cntP_last hb hx] at h
        injection h with h
        injection h with _ h
        rw [← h, List.length_cons]
        omega
      · rw [cntP_more hb hx] at h
        have := cntP_le h
        rw [List.length_cons]
        omega
theorem cntS_le (s : Rs) : (cntS s).2.1.length ≤ s.1.length := by
  unfold cntS
  cases h : cntP 0 0 s.1 with
  | none => exact Nat.zero_le _
  | some p => obtain ⟨m, l'⟩ := p; exact cntP_le h
theorem numS_le (s : Rs) : (numG cntS s).2.1.length ≤ s.1.length := by
  unfold numG
  split
  · exact cntS_le s
  · exact cntS_le s
theorem numsS_le (s : Rs) : ∀ k, (numsG cntS k s).2.1.length ≤ s.1.length
  | 0 => Nat.le_refl _
  | k + 1 => Nat.le_trans (numS_le _) (numsS_le s k)
theorem made_put {kk : Nat} {ns : List Nat} (h : 1 ≤ kk ∧ kk ≤ 6) (hl : ns.length = manyN kk) : putL [.int .i64 kk, .int .i64 0, .int .i64 0, .int .i64 0, .int .i64 0, .int .i64 0, .int .i64 0, .int .i64 0, .int .i64 0, .int .i64 0, .int .i64 0, .int .i64 0, .int .i64 0, .int .i64 0, .int .i64 0, .int .i64 0, .slice none 0 0] (offsL ⟨kk, ⟨0, 0, 0, 0, 0, 0, 0⟩, 0, 0, 0, 0, 0, 0, 0, 0⟩) ns = sesL (madeS kk ns) (.slice none 0 0) := by
  have : kk = 1 ∨ kk = 2 ∨ kk = 3 ∨ kk = 4 ∨ kk = 5 ∨ kk = 6 := by omega
  have h2 : ∀ ns : List Nat, ns.length = 2 → ∃ a b, ns = [a, b] := fun ns hn => by
    match ns, hn with
    | [a, b], _ => exact ⟨a, b, rfl⟩
  have h7 : ∀ ns : List Nat, ns.length = 7 → ∃ a b c d e f g, ns = [a, b, c, d, e, f, g] := fun ns hn => by
    match ns, hn with
    | [a, b, c, d, e, f, g], _ => exact ⟨a, b, c, d, e, f, g, rfl⟩
  rcases this with rfl | rfl | rfl | rfl | rfl | rfl
  · obtain ⟨a, b, c, d, e, f, g, rfl⟩ := h7 ns hl; rfl
  · obtain ⟨a, b, c, d, e, f, g, rfl⟩ := h7 ns hl; rfl
  · obtain ⟨a, b, rfl⟩ := h2 ns hl; rfl
  · obtain ⟨a, b, rfl⟩ := h2 ns hl; rfl
  · obtain ⟨a, b, rfl⟩ := h2 ns hl; rfl
  · obtain ⟨a, b, rfl⟩ := h2 ns hl; rfl
theorem loadP_go {l d nl : List Nat} {kk z : Nat} {S1 S2 : Rs} (hh : headL l = .inr (kk, d)) (hp : numsG cntS (manyN kk) (d, false) = (nl, S1)) (hq : numG cntS S1 = (z, S2)) :
    loadP l = if S2.2 = true ∨ S2.1.length / 4 < z then noLd 281 else tailL kk nl z (mvsG cntS z S2) := by
  unfold loadP
  rw [hh]
  dsimp only
  rw [hp]
  dsimp only
  rw [hq]
theorem ownne {W : World} {B e sz n : Nat} {v : Value} {L : List Value} (h : W.ownsRow B e sz v n L) {g : Nat} (hg : g < B) : some g ≠ v.ownBlock := fun he => by have := (h.lt g he.symm).1; omega
theorem ownne' {W : World} {B e sz n : Nat} {v : Value} {L : List Value} (h : W.ownsRow B e sz v n L) {g : Nat} (hg : g < B) : v.ownBlock = none ∨ v.ownBlock ≠ some g := Or.inr fun he => by have := (h.lt g he).1; omega
theorem ownlow {w : World} {base base' e size n : Nat} {v : Value} {xs : List Value} (h : w.ownsRow base e size v n xs) (hb : base' ≤ base) : w.ownsRow base' e size v n xs := ⟨h.1, h.2.imp id fun ⟨g, cap, cur, e1, h1, h2⟩ => ⟨g, cap, cur, e1, Nat.le_trans hb h1, h2⟩⟩
theorem mvsG_len (r : Rdr) (s : Rs) : ∀ k, (mvsG r k s).1.length = k
  | 0 => rfl
  | k + 1 => by show List.length (_ ++ [_]) = k + 1; rw [List.length_append, mvsG_len r s k]; rfl
theorem le_bytes {a b c d : Nat} (ha : a < 256) (hb : b < 256) (hc : c < 256) (hd : d < 256) : leB (a + b * 256 + c * 65536 + d * 16777216) 4 = [a, b, c, d] := by
  simp only [leB, List.range_succ, List.range_zero, List.map_cons, List.map_nil, List.nil_append, List.cons_append, Nat.pow_zero, Nat.div_one]
  refine List.cons_eq_cons.2 ⟨by omega, List.cons_eq_cons.2 ⟨by omega, List.cons_eq_cons.2 ⟨by omega, List.cons_eq_cons.2 ⟨by omega, rfl⟩⟩⟩⟩
theorem le_four {C a b c d : Nat} (hC : C < 4294967296) (h : leB C 4 = [a, b, c, d]) : C = a + b * 256 + c * 65536 + d * 16777216 := by
  simp only [leB, List.range_succ, List.range_zero, List.map_cons, List.map_nil, List.nil_append, List.cons_append, Nat.pow_zero, Nat.div_one] at h
  injection h with h0 h
  injection h with h1 h
  injection h with h2 h
  injection h with h3 _
  omega
theorem take4 {l : List Nat} {a b c d : Nat} (h0 : l[0]? = some a) (h1 : l[1]? = some b) (h2 : l[2]? = some c) (h3 : l[3]? = some d) : l.take 4 = [a, b, c, d] := by
  rw [take_snoc h3, take_snoc h2, take_snoc h1, take_snoc h0]
  rfl

set_option maxRecDepth 100000 in
set_option maxHeartbeats 4000000 in
theorem pload_any (A : Option Addr) (n k : Nat) (l : List Nat) (w : World) (h : Sl w w.heap.size 1 A n (u8s l)) (hn : n ≤ k ∧ k ≤ maxLen) (hl : ∀ x ∈ l, x < 256) :
    Calls Try.prog 39 #[.slice A n k] w (LdR (loadP l) w) := by
  obtain ⟨i1, hi1, hi1z, hi1s, hi1b⟩ := info_parts info_move
  have hlen : l.length = n := by have := h.1; rw [u8s_len] at this; omega
  have HSl := Lib.hid h
  have HL8 := Lib.hid hl
  have HLen := Lib.hid hlen
  have hk1 := hn.1
  have HK := Lib.hid hn.2
  have HB0 : Hid (Below w.heap.size w ((w.alloc (.cells #[.int .i64 0, .int .i64 0, .int .i64 0, .int .i64 0, .int .i64 0, .int .i64 0, .int .i64 0, .int .i64 0, .int .i64 0, .int .i64 0, .int .i64 0, .int .i64 0, .int .i64 0, .int .i64 0, .int .i64 0, .int .i64 0, .slice none 0 0] 76)).alloc (.cells #[.int .i64 0, .int .i64 0, .int .i64 0, .int .i64 0, .int .i64 0, .int .i64 0, .int .i64 0, .int .i64 0, .int .i64 0, .int .i64 0, .int .i64 0, .int .i64 0, .int .i64 0, .int .i64 0, .int .i64 0, .int .i64 0, .slice none 0 0] 76))) := ((Below.refl _ _).alloc (Nat.le_refl _) _).alloc (by simp) _
  have HS0 : Hid (Blk ((w.alloc (.cells #[.int .i64 0, .int .i64 0, .int .i64 0, .int .i64 0, .int .i64 0, .int .i64 0, .int .i64 0, .int .i64 0, .int .i64 0, .int .i64 0, .int .i64 0, .int .i64 0, .int .i64 0, .int .i64 0, .int .i64 0, .int .i64 0, .slice none 0 0] 76)).alloc (.cells #[.int .i64 0, .int .i64 0, .int .i64 0, .int .i64 0, .int .i64 0, .int .i64 0, .int .i64 0, .int .i64 0, .int .i64 0, .int .i64 0, .int .i64 0, .int .i64 0, .int .i64 0, .int .i64 0, .int .i64 0, .int .i64 0, .slice none 0 0] 76)) (w.heap.size + 1) 76 [.int .i64 0, .int .i64 0, .int .i64 0, .int .i64 0, .int .i64 0, .int .i64 0, .int .i64 0, .int .i64 0, .int .i64 0, .int .i64 0, .int .i64 0, .int .i64 0, .int .i64 0, .int .i64 0, .int .i64 0, .int .i64 0, .slice none 0 0]) := by
    have h9 := Blk.new (w.alloc (.cells #[.int .i64 0, .int .i64 0, .int .i64 0, .int .i64 0, .int .i64 0, .int .i64 0, .int .i64 0, .int .i64 0, .int .i64 0, .int .i64 0, .int .i64 0, .int .i64 0, .int .i64 0, .int .i64 0, .int .i64 0, .int .i64 0, .slice none 0 0] 76)) 76 [.int .i64 0, .int .i64 0, .int .i64 0, .int .i64 0, .int .i64 0, .int .i64 0, .int .i64 0, .int .i64 0, .int .i64 0, .int .i64 0, .int .i64 0, .int .i64 0, .int .i64 0, .int .i64 0, .int .i64 0, .int .i64 0, .slice none 0 0]
    rw [World.size_alloc] at h9
    exact h9
  have HZ0 : Hid (Blk ((w.alloc (.cells #[.int .i64 0, .int .i64 0, .int .i64 0, .int .i64 0, .int .i64 0, .int .i64 0, .int .i64 0, .int .i64 0, .int .i64 0, .int .i64 0, .int .i64 0, .int .i64 0, .int .i64 0, .int .i64 0, .int .i64 0, .int .i64 0, .slice none 0 0] 76)).alloc (.cells #[.int .i64 0, .int .i64 0, .int .i64 0, .int .i64 0, .int .i64 0, .int .i64 0, .int .i64 0, .int .i64 0, .int .i64 0, .int .i64 0, .int .i64 0, .int .i64 0, .int .i64 0, .int .i64 0, .int .i64 0, .int .i64 0, .slice none 0 0] 76)) w.heap.size 76 [.int .i64 0, .int .i64 0, .int .i64 0, .int .i64 0, .int .i64 0, .int .i64 0, .int .i64 0, .int .i64 0, .int .i64 0, .int .i64 0, .int .i64 0, .int .i64 0, .int .i64 0, .int .i64 0, .int .i64 0, .int .i64 0, .slice none 0 0]) := (Blk.new w 76 [.int .i64 0, .int .i64 0, .int .i64 0, .int .i64 0, .int .i64 0, .int .i64 0, .int .i64 0, .int .i64 0, .int .i64 0, .int .i64 0, .int .i64 0, .int .i64 0, .int .i64 0, .int .i64 0, .int .i64 0, .int .i64 0, .slice none 0 0]).alloc _
  clear h hn hl hlen
  go_enter Try.func39, Try.ntmps39
  go_upto_region 2 with fail
  generalize (w.alloc (.cells #[.int .i64 0, .int .i64 0, .int .i64 0, .int .i64 0, .int .i64 0, .int .i64 0, .int .i64 0, .int .i64 0, .int .i64 0, .int .i64 0, .int .i64 0, .int .i64 0, .int .i64 0, .int .i64 0, .int .i64 0, .int .i64 0, .slice none 0 0] 76)).alloc (.cells #[.int .i64 0, .int .i64 0, .int .i64 0, .int .i64 0, .int .i64 0, .int .i64 0, .int .i64 0, .int .i64 0, .int .i64 0, .int .i64 0, .int .i64 0, .int .i64 0, .int .i64 0, .int .i64 0, .int .i64 0, .int .i64 0, .slice none 0 0] 76) = w0 at HB0 HS0 HZ0 ⊢
  by_cases hlong : 4194304 < n
  · have d1 : decide ((4194304 : Int) < n) = true := by simp; omega
    have d2 : (4194304 : Int) < n := by omega
    have d3 : decide (4194304 < n) = true := by simp; omega
    have HX := Lib.hid (loadP_inl (head_long (by rw [HLen.out]; exact hlong)))
    clear hlong
    go_upto_region 3 with fail
    refine wp_region_lit ?_
    refine wpList_load_row rfl _ _ rfl (w.heap.size + 1) rfl 76 _ (0, 0) _ HS0.out Try.underlying76 rfl size_ses ?_
    refine wpList_store_row rfl _ _ _ rfl w.heap.size #[.int .i64 0, .int .i64 0, .int .i64 0, .int .i64 0, .int .i64 0, .int .i64 0, .int .i64 0, .int .i64 0, .int .i64 0, .int .i64 0, .int .i64 0, .int .i64 0, .int .i64 0, .int .i64 0, .int .i64 0, .int .i64 0, .slice none 0 0] rfl rfl _ _ HZ0.out size_ses rfl (by simp [Value.oneCell']) ?_
    have HF := setRow_heap w0 w.heap.size _ #[.int .i64 0, .int .i64 0, .int .i64 0, .int .i64 0, .int .i64 0, .int .i64 0, .int .i64 0, .int .i64 0, .int .i64 0, .int .i64 0, .int .i64 0, .int .i64 0, .int .i64 0, .int .i64 0, .int .i64 0, .int .i64 0, .slice none 0 0] _ _ HZ0.out
    have HB9 : Below w.heap.size w (w0.setRow w.heap.size #[.int .i64 0, .int .i64 0, .int .i64 0, .int .i64 0, .int .i64 0, .int .i64 0, .int .i64 0, .int .i64 0, .int .i64 0, .int .i64 0, .int .i64 0, .int .i64 0, .int .i64 0, .int .i64 0, .int .i64 0, .int .i64 0, .slice none 0 0]) := below_row HB0.out (Nat.le_refl _)
    go_wp2_with fail
    refine bodyPost_ret_by (results_cell_row2 rfl _ _ w.heap.size 76 _ (0, 0) _ rfl HF Try.underlying76 rfl size_ses) rfl ?_
    exact LdR.no HB9 HX.out
  have d1 : decide ((4194304 : Int) < n) = false := by simp; omega
  have d2 : ¬ (4194304 : Int) < n := by omega
  have d3 : decide (4194304 < n) = false := by simp; omega
  go_upto_region 4 with fail
  by_cases h9 : n < 9
  · have c1 : decide ((n : Int) < 9) = true := by simp; omega
    have c2 : (n : Int) < 9 := by omega
    have c3 : decide (n < 9) = true := by simp; omega
    have HX := Lib.hid (loadP_inl (head_img (by rw [HLen.out]; exact hlong) (Or.inl (by rw [HLen.out]; exact h9))))
    go_upto_region 5 with fail
    refine wp_region_lit ?_
    refine wpList_load_row rfl _ _ rfl (w.heap.size + 1) rfl 76 _ (0, 0) _ HS0.out Try.underlying76 rfl size_ses ?_
    refine wpList_store_row rfl _ _ _ rfl w.heap.size #[.int .i64 0, .int .i64 0, .int .i64 0, .int .i64 0, .int .i64 0, .int .i64 0, .int .i64 0, .int .i64 0, .int .i64 0, .int .i64 0, .int .i64 0, .int .i64 0, .int .i64 0, .int .i64 0, .int .i64 0, .int .i64 0, .slice none 0 0] rfl rfl _ _ HZ0.out size_ses rfl (by simp [Value.oneCell']) ?_
    have HF := setRow_heap w0 w.heap.size _ #[.int .i64 0, .int .i64 0, .int .i64 0, .int .i64 0, .int .i64 0, .int .i64 0, .int .i64 0, .int .i64 0, .int .i64 0, .int .i64 0, .int .i64 0, .int .i64 0, .int .i64 0, .int .i64 0, .int .i64 0, .int .i64 0, .slice none 0 0] _ _ HZ0.out
    have HB9 : Below w.heap.size w (w0.setRow w.heap.size #[.int .i64 0, .int .i64 0, .int .i64 0, .int .i64 0, .int .i64 0, .int .i64 0, .int .i64 0, .int .i64 0, .int .i64 0, .int .i64 0, .int .i64 0, .int .i64 0, .int .i64 0, .int .i64 0, .int .i64 0, .int .i64 0, .slice none 0 0]) := below_row HB0.out (Nat.le_refl _)
    go_wp2_with fail
    refine bodyPost_ret_by (results_cell_row2 rfl _ _ w.heap.size 76 _ (0, 0) _ rfl HF Try.underlying76 rfl size_ses) rfl ?_
    exact LdR.no HB9 HX.out
  have c1 : decide ((n : Int) < 9) = false := by simp; omega
  have c2 : ¬ (n : Int) < 9 := by omega
  have c3 : decide (n < 9) = false := by simp; omega
  obtain ⟨b, o, rfl, hb, hc⟩ := HSl.out.2 (by omega)
  have HCell : Hid (∀ (j x : Nat), l[j]? = some x → w.cell? ⟨b, o + j, none⟩ = some (.int .u8 x)) := fun j x hx => hc j _ (u8s_get hx)
  obtain ⟨x0, g0⟩ := at_lt (show 0 < l.length by rw [HLen.out]; omega)
  obtain ⟨x1, g1⟩ := at_lt (show 1 < l.length by rw [HLen.out]; omega)
  obtain ⟨x2, g2⟩ := at_lt (show 2 < l.length by rw [HLen.out]; omega)
  obtain ⟨x3, g3⟩ := at_lt (show 3 < l.length by rw [HLen.out]; omega)
  have HT4 := Lib.hid (take4 g0 g1 g2 g3)
  have m0 : w0.cell? ⟨b, o, none⟩ = some (.int .u8 x0) := (HB0.out.cell (p := ⟨b, o, none⟩) hb).trans (HCell.out 0 x0 g0)
  have m1 : w0.cell? ⟨b, o + 1, none⟩ = some (.int .u8 x1) := (HB0.out.cell (p := ⟨b, o + 1, none⟩) hb).trans (HCell.out 1 x1 g1)
  have m2 : w0.cell? ⟨b, o + 2, none⟩ = some (.int .u8 x2) := (HB0.out.cell (p := ⟨b, o + 2, none⟩) hb).trans (HCell.out 2 x2 g2)
  have m3 : w0.cell? ⟨b, o + 3, none⟩ = some (.int .u8 x3) := (HB0.out.cell (p := ⟨b, o + 3, none⟩) hb).trans (HCell.out 3 x3 g3)
  clear hc g0 g1 g2 g3
  by_cases z0 : x0 = 82
  case neg =>
    have q0 : ((x0 : Int) != 82) = true := by simp; omega
    have HX := Lib.hid (loadP_inl (head_img (by rw [HLen.out]; exact hlong) (Or.inr (by rw [HT4.out]; intro he; injection he with h0 he; injection he with h1 he; injection he with h2 he; injection he with h3 he; omega))))
    go_upto_region 5 with fail
    refine wp_region_lit ?_
    refine wpList_load_row rfl _ _ rfl (w.heap.size + 1) rfl 76 _ (0, 0) _ HS0.out Try.underlying76 rfl size_ses ?_
    refine wpList_store_row rfl _ _ _ rfl w.heap.size #[.int .i64 0, .int .i64 0, .int .i64 0, .int .i64 0, .int .i64 0, .int .i64 0, .int .i64 0, .int .i64 0, .int .i64 0, .int .i64 0, .int .i64 0, .int .i64 0, .int .i64 0, .int .i64 0, .int .i64 0, .int .i64 0, .slice none 0 0] rfl rfl _ _ HZ0.out size_ses rfl (by simp [Value.oneCell']) ?_
    have HF := setRow_heap w0 w.heap.size _ #[.int .i64 0, .int .i64 0, .int .i64 0, .int .i64 0, .int .i64 0, .int .i64 0, .int .i64 0, .int .i64 0, .int .i64 0, .int .i64 0, .int .i64 0, .int .i64 0, .int .i64 0, .int .i64 0, .int .i64 0, .int .i64 0, .slice none 0 0] _ _ HZ0.out
    have HB9 : Below w.heap.size w (w0.setRow w.heap.size #[.int .i64 0, .int .i64 0, .int .i64 0, .int .i64 0, .int .i64 0, .int .i64 0, .int .i64 0, .int .i64 0, .int .i64 0, .int .i64 0, .int .i64 0, .int .i64 0, .int .i64 0, .int .i64 0, .int .i64 0, .int .i64 0, .slice none 0 0]) := below_row HB0.out (Nat.le_refl _)
    go_wp2_with fail
    refine bodyPost_ret_by (results_cell_row2 rfl _ _ w.heap.size 76 _ (0, 0) _ rfl HF Try.underlying76 rfl size_ses) rfl ?_
    exact LdR.no HB9 HX.out
  have q0 : ((x0 : Int) != 82) = false := by simp; omega
  by_cases z1 : x1 = 67
  case neg =>
    have q1 : ((x1 : Int) != 67) = true := by simp; omega
    have HX := Lib.hid (loadP_inl (head_img (by rw [HLen.out]; exact hlong) (Or.inr (by rw [HT4.out]; intro he; injection he with h0 he; injection he with h1 he; injection he with h2 he; injection he with h3 he; omega))))
    go_upto_region 5 with fail
    refine wp_region_lit ?_
    refine wpList_load_row rfl _ _ rfl (w.heap.size + 1) rfl 76 _ (0, 0) _ HS0.out Try.underlying76 rfl size_ses ?_
    refine wpList_store_row rfl _ _ _ rfl w.heap.size #[.int .i64 0, .int .i64 0, .int .i64 0, .int .i64 0, .int .i64 0, .int .i64 0, .int .i64 0, .int .i64 0, .int .i64 0, .int .i64 0, .int .i64 0, .int .i64 0, .int .i64 0, .int .i64 0, .int .i64 0, .int .i64 0, .slice none 0 0] rfl rfl _ _ HZ0.out size_ses rfl (by simp [Value.oneCell']) ?_
    have HF := setRow_heap w0 w.heap.size _ #[.int .i64 0, .int .i64 0, .int .i64 0, .int .i64 0, .int .i64 0, .int .i64 0, .int .i64 0, .int .i64 0, .int .i64 0, .int .i64 0, .int .i64 0, .int .i64 0, .int .i64 0, .int .i64 0, .int .i64 0, .int .i64 0, .slice none 0 0] _ _ HZ0.out
    have HB9 : Below w.heap.size w (w0.setRow w.heap.size #[.int .i64 0, .int .i64 0, .int .i64 0, .int .i64 0, .int .i64 0, .int .i64 0, .int .i64 0, .int .i64 0, .int .i64 0, .int .i64 0, .int .i64 0, .int .i64 0, .int .i64 0, .int .i64 0, .int .i64 0, .int .i64 0, .slice none 0 0]) := below_row HB0.out (Nat.le_refl _)
    go_wp2_with fail
    refine bodyPost_ret_by (results_cell_row2 rfl _ _ w.heap.size 76 _ (0, 0) _ rfl HF Try.underlying76 rfl size_ses) rfl ?_
    exact LdR.no HB9 HX.out
  have q1 : ((x1 : Int) != 67) = false := by simp; omega
  by_cases z2 : x2 = 76
  case neg =>
    have q2 : ((x2 : Int) != 76) = true := by simp; omega
    have HX := Lib.hid (loadP_inl (head_img (by rw [HLen.out]; exact hlong) (Or.inr (by rw [HT4.out]; intro he; injection he with h0 he; injection he with h1 he; injection he with h2 he; injection he with h3 he; omega))))
    go_upto_region 5 with fail
    refine wp_region_lit ?_
    refine wpList_load_row rfl _ _ rfl (w.heap.size + 1) rfl 76 _ (0, 0) _ HS0.out Try.underlying76 rfl size_ses ?_
    refine wpList_store_row rfl _ _ _ rfl w.heap.size #[.int .i64 0, .int .i64 0, .int .i64 0, .int .i64 0, .int .i64 0, .int .i64 0, .int .i64 0, .int .i64 0, .int .i64 0, .int .i64 0, .int .i64 0, .int .i64 0, .int .i64 0, .int .i64 0, .int .i64 0, .int .i64 0, .slice none 0 0] rfl rfl _ _ HZ0.out size_ses rfl (by simp [Value.oneCell']) ?_
    have HF := setRow_heap w0 w.heap.size _ #[.int .i64 0, .int .i64 0, .int .i64 0, .int .i64 0, .int .i64 0, .int .i64 0, .int .i64 0, .int .i64 0, .int .i64 0, .int .i64 0, .int .i64 0, .int .i64 0, .int .i64 0, .int .i64 0, .int .i64 0, .int .i64 0, .slice none 0 0] _ _ HZ0.out
    have HB9 : Below w.heap.size w (w0.setRow w.heap.size #[.int .i64 0, .int .i64 0, .int .i64 0, .int .i64 0, .int .i64 0, .int .i64 0, .int .i64 0, .int .i64 0, .int .i64 0, .int .i64 0, .int .i64 0, .int .i64 0, .int .i64 0, .int .i64 0, .int .i64 0, .int .i64 0, .slice none 0 0]) := below_row HB0.out (Nat.le_refl _)
    go_wp2_with fail
    refine bodyPost_ret_by (results_cell_row2 rfl _ _ w.heap.size 76 _ (0, 0) _ rfl HF Try.underlying76 rfl size_ses) rfl ?_
    exact LdR.no HB9 HX.out
  have q2 : ((x2 : Int) != 76) = false := by simp; omega
  by_cases z3 : x3 = 1
  case neg =>
    have q3 : ((x3 : Int) != 1) = true := by simp; omega
    have HX := Lib.hid (loadP_inl (head_img (by rw [HLen.out]; exact hlong) (Or.inr (by rw [HT4.out]; intro he; injection he with h0 he; injection he with h1 he; injection he with h2 he; injection he with h3 he; omega))))
    go_upto_region 5 with fail
    refine wp_region_lit ?_
    refine wpList_load_row rfl _ _ rfl (w.heap.size + 1) rfl 76 _ (0, 0) _ HS0.out Try.underlying76 rfl size_ses ?_
    refine wpList_store_row rfl _ _ _ rfl w.heap.size #[.int .i64 0, .int .i64 0, .int .i64 0, .int .i64 0, .int .i64 0, .int .i64 0, .int .i64 0, .int .i64 0, .int .i64 0, .int .i64 0, .int .i64 0, .int .i64 0, .int .i64 0, .int .i64 0, .int .i64 0, .int .i64 0, .slice none 0 0] rfl rfl _ _ HZ0.out size_ses rfl (by simp [Value.oneCell']) ?_
    have HF := setRow_heap w0 w.heap.size _ #[.int .i64 0, .int .i64 0, .int .i64 0, .int .i64 0, .int .i64 0, .int .i64 0, .int .i64 0, .int .i64 0, .int .i64 0, .int .i64 0, .int .i64 0, .int .i64 0, .int .i64 0, .int .i64 0, .int .i64 0, .int .i64 0, .slice none 0 0] _ _ HZ0.out
    have HB9 : Below w.heap.size w (w0.setRow w.heap.size #[.int .i64 0, .int .i64 0, .int .i64 0, .int .i64 0, .int .i64 0, .int .i64 0, .int .i64 0, .int .i64 0, .int .i64 0, .int .i64 0, .int .i64 0, .int .i64 0, .int .i64 0, .int .i64 0, .int .i64 0, .int .i64 0, .slice none 0 0]) := below_row HB0.out (Nat.le_refl _)
    go_wp2_with fail
    refine bodyPost_ret_by (results_cell_row2 rfl _ _ w.heap.size 76 _ (0, 0) _ rfl HF Try.underlying76 rfl size_ses) rfl ?_
    exact LdR.no HB9 HX.out
  have q3 : ((x3 : Int) != 1) = false := by simp; omega
  have HHd := Lib.hid (show ¬ (l.length < 9 ∨ l.take 4 ≠ [82, 67, 76, 1]) by
    rw [HT4.out, z0, z1, z2, z3, HLen.out]
    rintro (hh | hh)
    · omega
    · exact hh rfl)
  have HLg := Lib.hid (show ¬ 4194304 < l.length by rw [HLen.out]; exact hlong)
  obtain ⟨E, hE⟩ : ∃ E, n = E + 4 := ⟨n - 4, by omega⟩
  subst hE
  clear z0 z1 z2 z3
  go_upto_region 7 with fail
  obtain ⟨y0, g0⟩ := at_lt (show E < l.length by rw [HLen.out]; omega)
  obtain ⟨y1, g1⟩ := at_lt (show E + 1 < l.length by rw [HLen.out]; omega)
  obtain ⟨y2, g2⟩ := at_lt (show E + 2 < l.length by rw [HLen.out]; omega)
  obtain ⟨y3, g3⟩ := at_lt (show E + 3 < l.length by rw [HLen.out]; omega)
  have n0 : w0.cell? ⟨b, o + E, none⟩ = some (.int .u8 y0) := (HB0.out.cell (p := ⟨b, o + E, none⟩) hb).trans (HCell.out _ y0 g0)
  have n1 : w0.cell? ⟨b, o + (E + 1), none⟩ = some (.int .u8 y1) := (HB0.out.cell (p := ⟨b, o + (E + 1), none⟩) hb).trans (HCell.out _ y1 g1)
  have n2 : w0.cell? ⟨b, o + (E + 2), none⟩ = some (.int .u8 y2) := (HB0.out.cell (p := ⟨b, o + (E + 2), none⟩) hb).trans (HCell.out _ y2 g2)
  have n3 : w0.cell? ⟨b, o + (E + 3), none⟩ = some (.int .u8 y3) := (HB0.out.cell (p := ⟨b, o + (E + 3), none⟩) hb).trans (HCell.out _ y3 g3)
  have t0 := HL8.out y0 (List.mem_of_getElem? g0)
  have t1 := HL8.out y1 (List.mem_of_getElem? g1)
  have t2 := HL8.out y2 (List.mem_of_getElem? g2)
  have t3 := HL8.out y3 (List.mem_of_getElem? g3)
  obtain ⟨P1, hP1⟩ : ∃ P, P = y0 + y1 * 256 := ⟨_, rfl⟩
  obtain ⟨P2, hP2⟩ : ∃ P, P = P1 + y2 * 65536 := ⟨_, rfl⟩
  obtain ⟨V, hV⟩ : ∃ P, P = P2 + y3 * 16777216 := ⟨_, rfl⟩
  have o1 : bits .or .u32 (y0 : Int) ((y1 : Int) * 256) = (P1 : Int) := by
    have h9 := u32_or_nat y0 (y1 * 256) (by omega) (by omega)
    rw [show y0 ||| y1 * 256 = P1 by rw [hP1]; exact or_shift (i := 8) (by omega)] at h9
    rw [← h9]
    simp
  have o2 : bits .or .u32 (P1 : Int) ((y2 : Int) * 65536) = (P2 : Int) := by
    have h9 := u32_or_nat P1 (y2 * 65536) (by omega) (by omega)
    rw [show P1 ||| y2 * 65536 = P2 by rw [hP2]; exact or_shift (i := 16) (by omega)] at h9
    rw [← h9]
    simp
  have o3 : bits .or .u32 (P2 : Int) ((y3 : Int) * 16777216) = (V : Int) := by
    have h9 := u32_or_nat P2 (y3 * 16777216) (by omega) (by omega)
    rw [show P2 ||| y3 * 16777216 = V by rw [hV]; exact or_shift (i := 24) (by omega)] at h9
    rw [← h9]
    simp
  have HDr := Lib.hid (show l.drop E = [y0, y1, y2, y3] by
    rw [drop_cons g0, drop_cons g1, drop_cons g2, drop_cons g3, List.drop_of_length_le (by rw [HLen.out]; omega)])
  have HVV := Lib.hid (show V = y0 + y1 * 256 + y2 * 65536 + y3 * 16777216 by omega)
  have HY := Lib.hid (⟨t0, t1, t2, t3⟩ : y0 < 256 ∧ y1 < 256 ∧ y2 < 256 ∧ y3 < 256)
  clear q0 q1 q2 q3 m0 m1 m2 m3 hP1 hP2 hV g0 g1 g2 g3
  obtain ⟨C, hC⟩ : ∃ C, C = crcS (l.take E) := ⟨_, rfl⟩
  have HSum : Hid (∀ W, Below w.heap.size w W → Calls Try.prog 34 #[.slice (some ⟨b, o, none⟩) E k] W (fun e w' => e = .returned (.int .u32 C) ∧ w' = W)) := fun W hB => by
    rw [hC]
    refine psum_any (some ⟨b, o, none⟩) E k (l.take E) W w.heap.size ?_ ⟨by omega, HK.out⟩ (fun x hx => HL8.out x (List.mem_of_mem_take hx))
    refine ⟨by rw [u8s_len, List.length_take, HLen.out]; omega, fun _ => ⟨b, o, rfl, hb, fun j u hu => ?_⟩⟩
    obtain ⟨x, hx, rfl⟩ : ∃ x, l[j]? = some x ∧ u = .int .u8 x := by
      simp only [u8s, List.getElem?_map, List.getElem?_take] at hu
      split at hu
      · cases hq : l[j]? with
        | none => rw [hq] at hu; cases hu
        | some x => rw [hq] at hu; injection hu with hu; exact ⟨x, rfl, hu.symm⟩
      · cases hu
    exact (hB.cell (p := ⟨b, o + j, none⟩) hb).trans (HCell.out j x hx)
  have HCC := Lib.hid hC
  have HCl := Lib.hid (show C < 4294967296 by rw [hC]; exact crcS_lt _)
  clear hC
  have HSm : Hid (crcS (l.take (l.length - 4)) = C ∧ l.drop (l.length - 4) = [y0, y1, y2, y3]) := by
    rw [HLen.out, show E + 4 - 4 = E by omega]
    exact ⟨HCC.out.symm, HDr.out⟩
  go_quiet (fail)
  go_wp2_with fail
  refine (HSum.out _ (HB0.out.drewN _)).mono ?_
  rintro e wq ⟨rfl, hwq⟩
  have HBq : Hid (Below w.heap.size w wq) := by rw [hwq]; exact HB0.out.drewN _
  have HSq : Hid (Blk wq (w.heap.size + 1) 76 [.int .i64 0, .int .i64 0, .int .i64 0, .int .i64 0, .int .i64 0, .int .i64 0, .int .i64 0, .int .i64 0, .int .i64 0, .int .i64 0, .int .i64 0, .int .i64 0, .int .i64 0, .int .i64 0, .int .i64 0, .int .i64 0, .slice none 0 0]) := by rw [hwq]; exact HS0.out
  have HZq : Hid (Blk wq w.heap.size 76 [.int .i64 0, .int .i64 0, .int .i64 0, .int .i64 0, .int .i64 0, .int .i64 0, .int .i64 0, .int .i64 0, .int .i64 0, .int .i64 0, .int .i64 0, .int .i64 0, .int .i64 0, .int .i64 0, .int .i64 0, .int .i64 0, .slice none 0 0]) := by rw [hwq]; exact HZ0.out
  clear hwq n0 n1 n2 n3 o1 o2 o3
  by_cases hCV : C = V
  case neg =>
    have b1 : ((C : Int) != (V : Int)) = true := by simp; omega
    have HX := Lib.hid (loadP_inl (head_sum HLg.out HHd.out (by
      rw [HSm.out.1, HSm.out.2]
      intro he
      have hv := HVV.out
      have := le_four HCl.out he.symm
      omega)))
    go_upto_region 9 with fail
    refine wp_region_lit ?_
    refine wpList_load_row rfl _ _ rfl (w.heap.size + 1) rfl 76 _ (0, 0) _ HSq.out Try.underlying76 rfl size_ses ?_
    refine wpList_store_row rfl _ _ _ rfl w.heap.size #[.int .i64 0, .int .i64 0, .int .i64 0, .int .i64 0, .int .i64 0, .int .i64 0, .int .i64 0, .int .i64 0, .int .i64 0, .int .i64 0, .int .i64 0, .int .i64 0, .int .i64 0, .int .i64 0, .int .i64 0, .int .i64 0, .slice none 0 0] rfl rfl _ _ HZq.out size_ses rfl (by simp [Value.oneCell']) ?_
    have HF := setRow_heap wq w.heap.size _ #[.int .i64 0, .int .i64 0, .int .i64 0, .int .i64 0, .int .i64 0, .int .i64 0, .int .i64 0, .int .i64 0, .int .i64 0, .int .i64 0, .int .i64 0, .int .i64 0, .int .i64 0, .int .i64 0, .int .i64 0, .int .i64 0, .slice none 0 0] _ _ HZq.out
    have HB9 : Below w.heap.size w (wq.setRow w.heap.size #[.int .i64 0, .int .i64 0, .int .i64 0, .int .i64 0, .int .i64 0, .int .i64 0, .int .i64 0, .int .i64 0, .int .i64 0, .int .i64 0, .int .i64 0, .int .i64 0, .int .i64 0, .int .i64 0, .int .i64 0, .int .i64 0, .slice none 0 0]) := below_row HBq.out (Nat.le_refl _)
    go_wp2_with fail
    refine bodyPost_ret_by (results_cell_row2 rfl _ _ w.heap.size 76 _ (0, 0) _ rfl HF Try.underlying76 rfl size_ses) rfl ?_
    exact LdR.no HB9 HX.out
  have b1 : ((C : Int) != (V : Int)) = false := by simp; omega
  have HSumOk := Lib.hid (show ¬ (l.drop (l.length - 4) ≠ leB (crcS (l.take (l.length - 4))) 4) by
    rw [HSm.out.1, HSm.out.2, hCV, HVV.out]
    intro he
    exact he (le_bytes HY.out.1 HY.out.2.1 HY.out.2.2.1 HY.out.2.2.2).symm)
  clear hCV
  obtain ⟨kk, g4⟩ := at_lt (show 4 < l.length by rw [HLen.out]; omega)
  have m4 : wq.cell? ⟨b, o + 4, none⟩ = some (.int .u8 kk) := (HBq.out.cell (p := ⟨b, o + 4, none⟩) hb).trans (HCell.out _ kk g4)
  have hkk := HL8.out kk (List.mem_of_getElem? g4)
  have HG4 := Lib.hid (show l[4]?.getD 0 = kk by rw [g4]; rfl)
  have f0 := HSq.out.frozen 0
  have c0 : wq.cell? ⟨w.heap.size + 1, 0, none⟩ = some (.int .i64 0) := HSq.out.cell rfl
  have hE5 : 5 ≤ E := by omega
  have e4 : ((E : Int) == 4) = false := by simp; omega
  clear g4
  go_upto_region 11 with fail
  have HS2 : Hid (Blk (wq.setCell ⟨w.heap.size + 1, 0, none⟩ (.int .i64 kk)) (w.heap.size + 1) 76 [.int .i64 kk, .int .i64 0, .int .i64 0, .int .i64 0, .int .i64 0, .int .i64 0, .int .i64 0, .int .i64 0, .int .i64 0, .int .i64 0, .int .i64 0, .int .i64 0, .int .i64 0, .int .i64 0, .int .i64 0, .int .i64 0, .slice none 0 0]) := HSq.out.set_ 0 _
  have HZ2 : Hid (Blk (wq.setCell ⟨w.heap.size + 1, 0, none⟩ (.int .i64 kk)) w.heap.size 76 [.int .i64 0, .int .i64 0, .int .i64 0, .int .i64 0, .int .i64 0, .int .i64 0, .int .i64 0, .int .i64 0, .int .i64 0, .int .i64 0, .int .i64 0, .int .i64 0, .int .i64 0, .int .i64 0, .int .i64 0, .int .i64 0, .slice none 0 0]) := HZq.out.far (by simp) _
  have HB2 : Hid (Below w.heap.size w (wq.setCell ⟨w.heap.size + 1, 0, none⟩ (.int .i64 kk))) := HBq.out.setCell (p := ⟨w.heap.size + 1, 0, none⟩) (by dsimp only; omega) _
  clear m4 f0 c0
  generalize wq.setCell ⟨w.heap.size + 1, 0, none⟩ (.int .i64 kk) = w2 at HS2 HZ2 HB2 ⊢
  have c0 : w2.cell? ⟨w.heap.size + 1, 0, none⟩ = some (.int .i64 kk) := HS2.out.cell rfl
  by_cases k0 : kk = 0
  · subst k0
    have HX := Lib.hid (loadP_inl (head_kind HLg.out HHd.out HSumOk.out (by rw [HG4.out]; rfl)))
    go_upto_region 12 with fail
    refine wp_region_lit ?_
    refine Go.wpList_buildTo rfl 76 #[] rfl _ rfl #[.int .i64 0, .int .i64 0, .int .i64 0, .int .i64 0, .int .i64 0, .int .i64 0, .int .i64 0, .int .i64 0, .int .i64 0, .int .i64 0, .int .i64 0, .int .i64 0, .int .i64 0, .int .i64 0, .int .i64 0, .int .i64 0, .slice none 0 0] (by kernel_rfl) ?_
    refine wpList_store_row rfl _ _ _ rfl w.heap.size #[.int .i64 0, .int .i64 0, .int .i64 0, .int .i64 0, .int .i64 0, .int .i64 0, .int .i64 0, .int .i64 0, .int .i64 0, .int .i64 0, .int .i64 0, .int .i64 0, .int .i64 0, .int .i64 0, .int .i64 0, .int .i64 0, .slice none 0 0] rfl rfl _ _ HZ2.out size_ses rfl (by simp [Value.oneCell']) ?_
    have HF := setRow_heap w2 w.heap.size _ #[.int .i64 0, .int .i64 0, .int .i64 0, .int .i64 0, .int .i64 0, .int .i64 0, .int .i64 0, .int .i64 0, .int .i64 0, .int .i64 0, .int .i64 0, .int .i64 0, .int .i64 0, .int .i64 0, .int .i64 0, .int .i64 0, .slice none 0 0] _ _ HZ2.out
    have HB9 : Below w.heap.size w (w2.setRow w.heap.size #[.int .i64 0, .int .i64 0, .int .i64 0, .int .i64 0, .int .i64 0, .int .i64 0, .int .i64 0, .int .i64 0, .int .i64 0, .int .i64 0, .int .i64 0, .int .i64 0, .int .i64 0, .int .i64 0, .int .i64 0, .int .i64 0, .slice none 0 0]) := below_row HB2.out (Nat.le_refl _)
    go_wp2_with fail
    refine bodyPost_ret_by (results_cell_row2 rfl _ _ w.heap.size 76 _ (0, 0) _ rfl HF Try.underlying76 rfl size_ses) rfl ?_
    exact LdR.no HB9 HX.out
  have a1 : decide ((kk : Int) < 1) = false := by simp; omega
  have a2 : ¬ (kk : Int) < 1 := by omega
  have a3 : decide (kk < 1) = false := by simp; omega
  by_cases k6 : 6 < kk
  · have a4 : decide ((6 : Int) < kk) = true := by simp; omega
    have a5 : (6 : Int) < kk := by omega
    have a6 : decide (6 < kk) = true := by simp; omega
    have HX := Lib.hid (loadP_inl (head_kind HLg.out HHd.out HSumOk.out (by rw [HG4.out]; unfold manyN; rw [if_neg (by omega), if_neg (by omega)])))
    go_upto_region 12 with fail
    refine wp_region_lit ?_
    refine Go.wpList_buildTo rfl 76 #[] rfl _ rfl #[.int .i64 0, .int .i64 0, .int .i64 0, .int .i64 0, .int .i64 0, .int .i64 0, .int .i64 0, .int .i64 0, .int .i64 0, .int .i64 0, .int .i64 0, .int .i64 0, .int .i64 0, .int .i64 0, .int .i64 0, .int .i64 0, .slice none 0 0] (by kernel_rfl) ?_
    refine wpList_store_row rfl _ _ _ rfl w.heap.size #[.int .i64 0, .int .i64 0, .int .i64 0, .int .i64 0, .int .i64 0, .int .i64 0, .int .i64 0, .int .i64 0, .int .i64 0, .int .i64 0, .int .i64 0, .int .i64 0, .int .i64 0, .int .i64 0, .int .i64 0, .int .i64 0, .slice none 0 0] rfl rfl _ _ HZ2.out size_ses rfl (by simp [Value.oneCell']) ?_
    have HF := setRow_heap w2 w.heap.size _ #[.int .i64 0, .int .i64 0, .int .i64 0, .int .i64 0, .int .i64 0, .int .i64 0, .int .i64 0, .int .i64 0, .int .i64 0, .int .i64 0, .int .i64 0, .int .i64 0, .int .i64 0, .int .i64 0, .int .i64 0, .int .i64 0, .slice none 0 0] _ _ HZ2.out
    have HB9 : Below w.heap.size w (w2.setRow w.heap.size #[.int .i64 0, .int .i64 0, .int .i64 0, .int .i64 0, .int .i64 0, .int .i64 0, .int .i64 0, .int .i64 0, .int .i64 0, .int .i64 0, .int .i64 0, .int .i64 0, .int .i64 0, .int .i64 0, .int .i64 0, .int .i64 0, .slice none 0 0]) := below_row HB2.out (Nat.le_refl _)
    go_wp2_with fail
    refine bodyPost_ret_by (results_cell_row2 rfl _ _ w.heap.size 76 _ (0, 0) _ rfl HF Try.underlying76 rfl size_ses) rfl ?_
    exact LdR.no HB9 HX.out
  have a4 : decide ((6 : Int) < kk) = false := by simp; omega
  have a5 : ¬ (6 : Int) < kk := by omega
  have a6 : decide (6 < kk) = false := by simp; omega
  clear b1
  go_upto_region 13 with fail
  clear c0
  obtain ⟨d, hd⟩ : ∃ d, d = (l.take E).drop 5 := ⟨_, rfl⟩
  have HHead := Lib.hid (show headL l = .inr (kk, d) by
    unfold headL
    rw [if_neg HLg.out, if_neg HHd.out, if_neg HSumOk.out, HG4.out, if_neg (many_ne (by omega) (by omega)), HLen.out, show E + 4 - 4 = E by omega, hd])
  have HDl := Lib.hid (show d.length = E - 5 by rw [hd, List.length_drop, List.length_take, HLen.out]; omega)
  have HD8 := Lib.hid (show ∀ x ∈ d, x < 256 from fun x hx => HL8.out x (List.mem_of_mem_take (List.mem_of_mem_drop (by rw [← hd]; exact hx))))
  have HDs : Hid (∀ W, Below w.heap.size w W → Sl W w.heap.size 1 (some ⟨b, o + 5, none⟩) (E - 5) (u8s d)) := fun W hB => by
    refine ⟨by rw [u8s_len, HDl.out]; omega, fun _ => ⟨b, o + 5, rfl, hb, fun j u hu => ?_⟩⟩
    obtain ⟨x, hx, rfl⟩ : ∃ x, l[5 + j]? = some x ∧ u = .int .u8 x := by
      rw [hd] at hu
      simp only [u8s, List.getElem?_map, List.getElem?_drop, List.getElem?_take] at hu
      split at hu
      · cases hq : l[5 + j]? with
        | none => rw [hq] at hu; cases hu
        | some x => rw [hq] at hu; injection hu with hu; exact ⟨x, rfl, hu.symm⟩
      · cases hu
    rw [Nat.add_assoc]
    exact (hB.cell (p := ⟨b, o + (5 + j), none⟩) hb).trans (HCell.out _ x hx)
  have v1 : (5 : Int) ≤ E := by omega
  have v2 : (E : Int) ≤ k := by omega
  have v3 : E ≤ k := by omega
  have v4 : decide (5 ≤ E) = true := by simp; omega
  have HK16 := Lib.hid (show 1 ≤ kk ∧ kk ≤ 6 by omega)
  clear hd k6
  clear e4 a1 a2 a3 a4 a5 a6 c1 c2 c3 d1 d2 d3 k0 h9 hlong
  go_upto_region 14 with fail
  have HR3 : Hid (Blk (w2.alloc (.cells #[.slice (some ⟨b, o + 5, none⟩) (E - 5) (k - 5), .bool false] 186)) w2.heap.size 186 [.slice (some ⟨b, o + 5, none⟩) (E - 5) (k - 5), .bool false]) := Blk.new _ _ _
  have HS3 : Hid (Blk (w2.alloc (.cells #[.slice (some ⟨b, o + 5, none⟩) (E - 5) (k - 5), .bool false] 186)) (w.heap.size + 1) 76 [.int .i64 kk, .int .i64 0, .int .i64 0, .int .i64 0, .int .i64 0, .int .i64 0, .int .i64 0, .int .i64 0, .int .i64 0, .int .i64 0, .int .i64 0, .int .i64 0, .int .i64 0, .int .i64 0, .int .i64 0, .int .i64 0, .slice none 0 0]) := HS2.out.alloc _
  have HZ3 : Hid (Blk (w2.alloc (.cells #[.slice (some ⟨b, o + 5, none⟩) (E - 5) (k - 5), .bool false] 186)) w.heap.size 76 [.int .i64 0, .int .i64 0, .int .i64 0, .int .i64 0, .int .i64 0, .int .i64 0, .int .i64 0, .int .i64 0, .int .i64 0, .int .i64 0, .int .i64 0, .int .i64 0, .int .i64 0, .int .i64 0, .int .i64 0, .int .i64 0, .slice none 0 0]) := HZ2.out.alloc _
  have HB3 : Hid (Below w.heap.size w (w2.alloc (.cells #[.slice (some ⟨b, o + 5, none⟩) (E - 5) (k - 5), .bool false] 186))) := HB2.out.alloc HB2.out.size _
  generalize w2.alloc (.cells #[.slice (some ⟨b, o + 5, none⟩) (E - 5) (k - 5), .bool false] 186) = w3 at HR3 HS3 HZ3 HB3 ⊢
  obtain ⟨gr, hgr⟩ : ∃ gr, gr = w2.heap.size := ⟨_, rfl⟩
  have hgrw : w.heap.size + 1 < gr := by rw [hgr]; exact HS2.out.lt
  rw [← hgr] at HR3 ⊢
  have c0 : w3.cell? ⟨w.heap.size + 1, 0, none⟩ = some (.int .i64 kk) := HS3.out.cell rfl
  have hkk1 : 1 ≤ (kk : Int) ∧ (kk : Int) ≤ 6 := by have := HK16.out; omega
  have HRd3 : Hid (RdAt w3 w.heap.size gr 186 (some ⟨b, o + 5, none⟩) (E - 5) (k - 5) (d, false)) := ⟨HR3.out, HDs.out w3 HB3.out, by omega, by have := HK.out; omega, HD8.out⟩
  clear hgr HS2 HZ2 HB2
  go_wp2_with fail
  refine (fields_any ⟨kk, ⟨0, 0, 0, 0, 0, 0, 0⟩, 0, 0, 0, 0, 0, 0, 0, 0⟩ (w.heap.size + 1) _ hkk1 c0).mono ?_
  obtain ⟨offs, hoffs⟩ : ∃ offs, offs = offsL ⟨kk, ⟨0, 0, 0, 0, 0, 0, 0⟩, 0, 0, 0, 0, 0, 0, 0, 0⟩ := ⟨_, rfl⟩
  rw [← hoffs]
  have HOf := Lib.hid hoffs
  have HOl := Lib.hid (show ∀ x ∈ offs, x < 17 ∧ 1 ≤ x by rw [hoffs]; exact offs_lt _)
  have HOn := Lib.hid (show offs.length = manyN kk by rw [hoffs]; exact offs_many HK16.out.1 HK16.out.2)
  rintro e w4 ⟨bp, kp, rfl, hbp, hP4, hb4, hkp, hkp2⟩
  have HP4 := Lib.hid hP4
  have HRd4 := Lib.hid (HRd3.out.below hb4)
  have HS4 := Lib.hid (HS3.out.below hb4 HS3.out.lt)
  have HZ4 := Lib.hid (HZ3.out.below hb4 HZ3.out.lt)
  have HB4 := Lib.hid (HB3.out.trans (hb4.mono HB3.out.size))
  have hgr3 := HR3.out.lt
  obtain ⟨N, hN⟩ : ∃ N, N = offs.length := ⟨_, rfl⟩
  rw [← hN] at hkp ⊢
  have HN := Lib.hid hN
  have hN7 : N ≤ 7 := by rw [hN, HOn.out]; exact many_le _
  unfold maxLen at hkp2
  clear c0 hoffs hP4 hb4 hN HRd3
  go_wp2_with fail
  go_loopg [109] N (fun gk i wr => ∃ (q : Nat) (A' : Option Addr) (n' k' : Nat), q + gk = N ∧ i = .int .i64 q ∧ Hid (RdAt wr w.heap.size gr 186 A' n' k' (numsG cntS q (d, false)).2) ∧ Hid (Blk wr (w.heap.size + 1) 76 (putL [.int .i64 kk, .int .i64 0, .int .i64 0, .int .i64 0, .int .i64 0, .int .i64 0, .int .i64 0, .int .i64 0, .int .i64 0, .int .i64 0, .int .i64 0, .int .i64 0, .int .i64 0, .int .i64 0, .int .i64 0, .int .i64 0, .slice none 0 0] (offs.take q) (numsG cntS q (d, false)).1)) ∧
    Hid (Blk wr bp 171 (ptrs (w.heap.size + 1) offs)) ∧ Hid (Blk wr w.heap.size 76 [.int .i64 0, .int .i64 0, .int .i64 0, .int .i64 0, .int .i64 0, .int .i64 0, .int .i64 0, .int .i64 0, .int .i64 0, .int .i64 0, .int .i64 0, .int .i64 0, .int .i64 0, .int .i64 0, .int .i64 0, .int .i64 0, .slice none 0 0]) ∧ Hid (Below w.heap.size w wr) ∧ Hid ((numsG cntS q (d, false)).1.length = q))
  case atStart => exact ⟨0, _, _, _, by omega, rfl, HRd4.out, HS4.out, HP4.out, HZ4.out, HB4.out, rfl⟩
  case round =>
    obtain ⟨q, A', n', k', hq, rfl, HRd, HSs, HPp, HZz, HBb, HNq⟩ := hrel
    by_cases hlt : q < N
    · obtain ⟨of, hof⟩ := at_lt (show q < offs.length by rw [← HN.out]; exact hlt)
      have hofb := HOl.out of (List.mem_of_getElem? hof)
      have cp : wr.cell? ⟨bp, q, none⟩ = some (.pointer (some ⟨w.heap.size + 1, of, none⟩)) := HPp.out.cell (by simp [ptrs, hof])
      have e1 : (q : Int) < N := by omega
      have e0 : (0 : Int) ≤ q := by omega
      obtain ⟨S, hS⟩ : ∃ S, S = (numsG cntS q (d, false)).2 := ⟨_, rfl⟩
      have HSS := Lib.hid hS
      have HOff := Lib.hid hof
      have HCall : Hid (Calls Try.prog 82 #[.pointer (some ⟨gr, 0, none⟩)] wr (PNumR w.heap.size gr (numG cntS S).1 (numG cntS S).2 wr)) := by
        rw [hS]
        exact rdnumber_any w.heap.size gr A' n' k' _ wr HRd.out (by omega)
      obtain ⟨z, hz⟩ : ∃ z, z = (numG cntS S).1 := ⟨_, rfl⟩
      have HZv := Lib.hid hz
      rw [← hz] at HCall
      clear hS hof hz
      go_wp2_with fail
      refine HCall.out.mono ?_
      rintro e w5 ⟨A5, n5, k5, rfl, hr5, hg5⟩
      have HRd5 := Lib.hid hr5
      have HS5 := Lib.hid (HSs.out.grown hg5 (by intro he; injection he with he; omega))
      have HP5 := Lib.hid (HPp.out.grown hg5 (by intro he; injection he with he; omega))
      have HZ5 := Lib.hid (HZz.out.grown hg5 (by intro he; injection he with he; omega))
      have HB5 := Lib.hid (HBb.out.grown hg5 HBb.out.size (fun x hx => by injection hx with hx; omega))
      obtain ⟨u, hu⟩ := at_lt (show of < (putL [.int .i64 kk, .int .i64 0, .int .i64 0, .int .i64 0, .int .i64 0, .int .i64 0, .int .i64 0, .int .i64 0, .int .i64 0, .int .i64 0, .int .i64 0, .int .i64 0, .int .i64 0, .int .i64 0, .int .i64 0, .int .i64 0, .slice none 0 0] (offs.take q) (numsG cntS q (d, false)).1).length by rw [putL_len]; simp; omega)
      have cs : w5.cell? ⟨w.heap.size + 1, of, none⟩ = some u := HS5.out.cell hu
      have fs := HS5.out.frozen of
      clear hr5 hg5 hu
      go_wp2_with fail
      go_roundg (gk - 1)
      case measure => omega
      case rel =>
        have hset : w5.grownBy (w5.setCell ⟨w.heap.size + 1, of, none⟩ (.int .i64 z)) (some (w.heap.size + 1)) := gb_set (World.grownBy.refl w5 _) of _
        refine ⟨q + 1, A5, n5, k5, by omega, by go_num, ?_, ?_, HP5.out.far (by dsimp only; omega) _, HZ5.out.far (by simp) _, HB5.out.setCell (p := ⟨w.heap.size + 1, of, none⟩) (by dsimp only; omega) _, ?_⟩
        · have h8 := HRd5.out.set hset (by omega) (by omega)
          rw [HSS.out] at h8
          exact h8
        · have h8 := HS5.out.set_ of (.int .i64 z)
          rw [HZv.out, HSS.out] at h8
          have h7 := putL_snoc [.int .i64 kk, .int .i64 0, .int .i64 0, .int .i64 0, .int .i64 0, .int .i64 0, .int .i64 0, .int .i64 0, .int .i64 0, .int .i64 0, .int .i64 0, .int .i64 0, .int .i64 0, .int .i64 0, .int .i64 0, .int .i64 0, .slice none 0 0] HOff.out HNq.out (by have := List.getElem?_eq_some_iff.1 HOff.out; exact Nat.le_of_lt this.1) (numG cntS (numsG cntS q (d, false)).2).1
          show Blk _ _ _ (putL [.int .i64 kk, .int .i64 0, .int .i64 0, .int .i64 0, .int .i64 0, .int .i64 0, .int .i64 0, .int .i64 0, .int .i64 0, .int .i64 0, .int .i64 0, .int .i64 0, .int .i64 0, .int .i64 0, .int .i64 0, .int .i64 0, .slice none 0 0] (offs.take (q + 1)) ((numsG cntS q (d, false)).1 ++ [(numG cntS (numsG cntS q (d, false)).2).1]))
          rw [h7, ← HSS.out, ← HZv.out]
          rw [← HSS.out, ← HZv.out] at h8
          exact h8
        · show List.length ((numsG cntS q (d, false)).1 ++ [_]) = q + 1
          rw [List.length_append, HNq.out]
          rfl
    · obtain rfl : q = N := by omega
      obtain ⟨p, hp⟩ : ∃ p, p = numsG cntS q (d, false) := ⟨_, rfl⟩
      rw [← hp] at HRd HSs HNq
      obtain ⟨nl, S1⟩ := p
      have HP := Lib.hid hp
      have HQm := Lib.hid (show q = manyN kk by rw [HN.out, HOn.out])
      have HSes : Hid (Blk wr (w.heap.size + 1) 76 (sesL (madeS kk nl) (.slice none 0 0))) := by
        have h9 := HSs.out
        rw [List.take_of_length_le (by rw [HN.out]; exact Nat.le_refl _), HOf.out, made_put HK16.out (HNq.out.trans HQm.out)] at h9
        exact h9
      have HRr : Hid (RdAt wr w.heap.size gr 186 A' n' k' S1) := HRd
      have HLe := Lib.hid (show S1.1.length ≤ 4194304 by
        have h9 := numsS_le (d, false) q
        rw [← HP.out] at h9
        have h8 := HDl.out
        have h7 := HLg.out
        rw [HLen.out] at h7
        simp only at h9
        omega)
      clear hp HRd HSs HPp
      obtain ⟨c, hc⟩ : ∃ c, c = numG cntS S1 := ⟨_, rfl⟩
      have HCall : Hid (Calls Try.prog 82 #[.pointer (some ⟨gr, 0, none⟩)] wr (PNumR w.heap.size gr (numG cntS S1).1 (numG cntS S1).2 wr)) := rdnumber_any w.heap.size gr A' n' k' _ wr HRr.out (by omega)
      rw [← hc] at HCall
      have HLe2 := Lib.hid (show c.2.1.length ≤ 4194304 by rw [hc]; exact Nat.le_trans (numS_le _) HLe.out)
      obtain ⟨z, S2⟩ := c
      have HGo := Lib.hid (loadP_go HHead.out (by rw [← HQm.out]; exact HP.out.symm) hc.symm)
      clear hc
      go_wp2_with fail
      refine HCall.out.mono ?_
      rintro e w5 ⟨A5, n5, k5, rfl, hr5, hg5⟩
      have HRd5 := Lib.hid hr5
      have HS5 := Lib.hid (HSes.out.grown hg5 (by intro he; injection he with he; omega))
      have HZ5 := Lib.hid (HZz.out.grown hg5 (by intro he; injection he with he; omega))
      have HB5 := Lib.hid (HBb.out.grown hg5 HBb.out.size (fun x hx => by injection hx with hx; omega))
      clear hr5 hg5
      obtain ⟨L2, bad⟩ := S2
      have c1 : w5.cell? ⟨gr, 1, none⟩ = some (.bool bad) := HRd5.out.blk.cell rfl
      have c0 : w5.cell? ⟨gr, 0, none⟩ = some (.slice A5 n5 k5) := HRd5.out.blk.cell rfl
      have HL2 : Hid (n5 = L2.length) := HRd5.out.len.symm
      have hL3 : n5 ≤ 4194304 := by rw [HL2.out]; exact HLe2.out
      by_cases hbad : bad = true
      · subst hbad
        have HX := Lib.hid (show loadP l = noLd 281 by rw [HGo.out, if_pos (Or.inl rfl)])
        go_upto_region 21 with fail
        refine wp_region_lit ?_
        refine Go.wpList_buildTo rfl 76 #[] rfl _ rfl #[.int .i64 0, .int .i64 0, .int .i64 0, .int .i64 0, .int .i64 0, .int .i64 0, .int .i64 0, .int .i64 0, .int .i64 0, .int .i64 0, .int .i64 0, .int .i64 0, .int .i64 0, .int .i64 0, .int .i64 0, .int .i64 0, .slice none 0 0] (by kernel_rfl) ?_
        refine wpList_store_row rfl _ _ _ rfl w.heap.size #[.int .i64 0, .int .i64 0, .int .i64 0, .int .i64 0, .int .i64 0, .int .i64 0, .int .i64 0, .int .i64 0, .int .i64 0, .int .i64 0, .int .i64 0, .int .i64 0, .int .i64 0, .int .i64 0, .int .i64 0, .int .i64 0, .slice none 0 0] rfl rfl _ _ HZ5.out size_ses rfl (by simp [Value.oneCell']) ?_
        have HF := setRow_heap w5 w.heap.size _ #[.int .i64 0, .int .i64 0, .int .i64 0, .int .i64 0, .int .i64 0, .int .i64 0, .int .i64 0, .int .i64 0, .int .i64 0, .int .i64 0, .int .i64 0, .int .i64 0, .int .i64 0, .int .i64 0, .int .i64 0, .int .i64 0, .slice none 0 0] _ _ HZ5.out
        have HB9 : Below w.heap.size w (w5.setRow w.heap.size #[.int .i64 0, .int .i64 0, .int .i64 0, .int .i64 0, .int .i64 0, .int .i64 0, .int .i64 0, .int .i64 0, .int .i64 0, .int .i64 0, .int .i64 0, .int .i64 0, .int .i64 0, .int .i64 0, .int .i64 0, .int .i64 0, .slice none 0 0]) := below_row HB5.out (Nat.le_refl _)
        go_wp2_with fail
        refine bodyPost_ret_by (results_cell_row2 rfl _ _ w.heap.size 76 _ (0, 0) _ rfl HF Try.underlying76 rfl size_ses) rfl ?_
        exact LdR.no HB9 HX.out
      obtain rfl : bad = false := by simpa using hbad
      clear hbad
      by_cases hm : n5 / 4 < z
      · have d1 : decide ((n5 : Int) / 4 < z) = true := by simp; omega
        have d2 : (n5 : Int) / 4 < z := by omega
        have d3 : decide (n5 / 4 < z) = true := by simp; omega
        have HX := Lib.hid (show loadP l = noLd 281 by rw [HGo.out, if_pos (Or.inr (by show L2.length / 4 < z; rw [← HL2.out]; exact hm))])
        go_upto_region 21 with fail
        refine wp_region_lit ?_
        refine Go.wpList_buildTo rfl 76 #[] rfl _ rfl #[.int .i64 0, .int .i64 0, .int .i64 0, .int .i64 0, .int .i64 0, .int .i64 0, .int .i64 0, .int .i64 0, .int .i64 0, .int .i64 0, .int .i64 0, .int .i64 0, .int .i64 0, .int .i64 0, .int .i64 0, .int .i64 0, .slice none 0 0] (by kernel_rfl) ?_
        refine wpList_store_row rfl _ _ _ rfl w.heap.size #[.int .i64 0, .int .i64 0, .int .i64 0, .int .i64 0, .int .i64 0, .int .i64 0, .int .i64 0, .int .i64 0, .int .i64 0, .int .i64 0, .int .i64 0, .int .i64 0, .int .i64 0, .int .i64 0, .int .i64 0, .int .i64 0, .slice none 0 0] rfl rfl _ _ HZ5.out size_ses rfl (by simp [Value.oneCell']) ?_
        have HF := setRow_heap w5 w.heap.size _ #[.int .i64 0, .int .i64 0, .int .i64 0, .int .i64 0, .int .i64 0, .int .i64 0, .int .i64 0, .int .i64 0, .int .i64 0, .int .i64 0, .int .i64 0, .int .i64 0, .int .i64 0, .int .i64 0, .int .i64 0, .int .i64 0, .slice none 0 0] _ _ HZ5.out
        have HB9 : Below w.heap.size w (w5.setRow w.heap.size #[.int .i64 0, .int .i64 0, .int .i64 0, .int .i64 0, .int .i64 0, .int .i64 0, .int .i64 0, .int .i64 0, .int .i64 0, .int .i64 0, .int .i64 0, .int .i64 0, .int .i64 0, .int .i64 0, .int .i64 0, .int .i64 0, .slice none 0 0]) := below_row HB5.out (Nat.le_refl _)
        go_wp2_with fail
        refine bodyPost_ret_by (results_cell_row2 rfl _ _ w.heap.size 76 _ (0, 0) _ rfl HF Try.underlying76 rfl size_ses) rfl ?_
        exact LdR.no HB9 HX.out
      have d1 : decide ((n5 : Int) / 4 < z) = false := by simp; omega
      have d2 : ¬ (n5 : Int) / 4 < z := by omega
      have d3 : decide (n5 / 4 < z) = false := by simp; omega
      have HTl := Lib.hid (show loadP l = tailL kk nl z (mvsG cntS z (L2, false)) by
        rw [HGo.out, if_neg (by
          rintro (h9 | h9)
          · cases h9
          · exact hm (by rw [HL2.out]; exact h9))])
      have hz : z ≤ 1048576 := by omega
      have HRd5' : Hid (RdAt w5 w.heap.size gr 186 A5 n5 k5 (mvsG cntS 0 (L2, false)).2) := HRd5.out
      clear hm
      obtain ⟨SS, hSS⟩ : ∃ s, s = madeS kk nl := ⟨_, rfl⟩
      rw [← hSS] at HS5
      have HSSd := Lib.hid hSS
      have hgr5 := HRd5.out.blk.lt
      obtain ⟨Bm, hBm⟩ : ∃ Bm, Bm = w5.heap.size := ⟨_, rfl⟩
      have hBm2 : Bm ≤ w5.heap.size := by omega
      have hBm3 : gr < Bm := by omega
      clear HRd5 HSes HRr HCall hSS hgr5 hBm
      go_wp2_with fail
      go_loopg [136] z (fun gk i wr => ∃ (q : Nat) (A' : Option Addr) (n' k' : Nat) (v : Value), q + gk = z ∧ i = .int .i64 q ∧ Bm ≤ wr.heap.size ∧ Hid (RdAt wr w.heap.size gr 186 A' n' k' (mvsG cntS q (L2, false)).2) ∧ Hid (Blk wr (w.heap.size + 1) 76 (sesL SS v)) ∧
        Hid (wr.ownsRow Bm 95 4 v q (mvVals (mvsG cntS q (L2, false)).1)) ∧ Hid (Blk wr w.heap.size 76 [.int .i64 0, .int .i64 0, .int .i64 0, .int .i64 0, .int .i64 0, .int .i64 0, .int .i64 0, .int .i64 0, .int .i64 0, .int .i64 0, .int .i64 0, .int .i64 0, .int .i64 0, .int .i64 0, .int .i64 0, .int .i64 0, .slice none 0 0]) ∧ Hid (Below w.heap.size w wr))
      case atStart => exact ⟨0, A5, n5, k5, _, by omega, rfl, hBm2, HRd5', HS5, World.ownsRow_nil _ _ _ _, HZ5, HB5⟩
      case round =>
        obtain ⟨q, A', n', k', v, hq, rfl, hBr, HRd, HSs, HOw, HZz, HBb⟩ := hrel
        by_cases hlt : q < z
        · have e1 : (q : Int) < z := by omega
          have e0 : (0 : Int) ≤ q := by omega
          obtain ⟨S0, hS0⟩ : ∃ S, S = (mvsG cntS q (L2, false)).2 := ⟨_, rfl⟩
          have HS0 := Lib.hid hS0
          rw [← hS0] at HRd
          clear hS0
          have hgrr := HRd.out.blk.lt
          obtain ⟨C1, hC1⟩ : ∃ C, C = cntS S0 := ⟨_, rfl⟩
          obtain ⟨V1, hV1⟩ : ∃ V, V = unsg C1.1 := ⟨_, rfl⟩
          obtain ⟨S1, hS1⟩ : ∃ S, S = C1.2 := ⟨_, rfl⟩
          have HC1 : Hid (Calls Try.prog 83 #[.pointer (some ⟨gr, 0, none⟩)] wr (PNumR w.heap.size gr V1 S1 wr)) := by
            rw [hV1, hS1, hC1]
            exact rdsigned_any w.heap.size gr A' n' k' S0 wr HRd.out (by omega)
          have HE1 := Lib.hid (⟨hC1, hV1, hS1⟩ : C1 = cntS S0 ∧ V1 = unsg C1.1 ∧ S1 = C1.2)
          clear hC1 hV1 hS1
          go_wp2_with fail
          refine HC1.out.mono ?_
          rintro e u1 ⟨B1, n1', k1', rfl, hr1, hg1⟩
          have HRu1 := Lib.hid hr1
          have hgu1 : wr.grownBy u1 (some gr) := hg1
          clear hr1 hg1
          obtain ⟨C2, hC2⟩ : ∃ C, C = cntS S1 := ⟨_, rfl⟩
          obtain ⟨V2, hV2⟩ : ∃ V, V = unsg C2.1 := ⟨_, rfl⟩
          obtain ⟨S2, hS2⟩ : ∃ S, S = C2.2 := ⟨_, rfl⟩
          have HC2 : Hid (Calls Try.prog 83 #[.pointer (some ⟨gr, 0, none⟩)] u1 (PNumR w.heap.size gr V2 S2 u1)) := by
            rw [hV2, hS2, hC2]
            exact rdsigned_any w.heap.size gr B1 n1' k1' S1 u1 HRu1.out (by omega)
          have HE2 := Lib.hid (⟨hC2, hV2, hS2⟩ : C2 = cntS S1 ∧ V2 = unsg C2.1 ∧ S2 = C2.2)
          clear hC2 hV2 hS2
          go_wp2_with fail
          refine HC2.out.mono ?_
          rintro e u2 ⟨B2, n2', k2', rfl, hr2, hg2⟩
          have HRu2 := Lib.hid hr2
          have hgu2 : wr.grownBy u2 (some gr) := hgu1.trans hg2
          clear hr2 hg2 hgu1 HC1 HRu1
          obtain ⟨C3, hC3⟩ : ∃ C, C = cntS S2 := ⟨_, rfl⟩
          obtain ⟨V3, hV3⟩ : ∃ V, V = unsg C3.1 := ⟨_, rfl⟩
          obtain ⟨S3, hS3⟩ : ∃ S, S = C3.2 := ⟨_, rfl⟩
          have HC3 : Hid (Calls Try.prog 83 #[.pointer (some ⟨gr, 0, none⟩)] u2 (PNumR w.heap.size gr V3 S3 u2)) := by
            rw [hV3, hS3, hC3]
            exact rdsigned_any w.heap.size gr B2 n2' k2' S2 u2 HRu2.out (by omega)
          have HE3 := Lib.hid (⟨hC3, hV3, hS3⟩ : C3 = cntS S2 ∧ V3 = unsg C3.1 ∧ S3 = C3.2)
          clear hC3 hV3 hS3
          go_wp2_with fail
          refine HC3.out.mono ?_
          rintro e u3 ⟨B3, n3', k3', rfl, hr3, hg3⟩
          have HRu3 := Lib.hid hr3
          have hgu3 : wr.grownBy u3 (some gr) := hgu2.trans hg3
          clear hr3 hg3 hgu2 HC2 HRu2
          obtain ⟨C4, hC4⟩ : ∃ C, C = cntS S3 := ⟨_, rfl⟩
          obtain ⟨V4, hV4⟩ : ∃ V, V = unsg C4.1 := ⟨_, rfl⟩
          obtain ⟨S4, hS4⟩ : ∃ S, S = C4.2 := ⟨_, rfl⟩
          have HC4 : Hid (Calls Try.prog 83 #[.pointer (some ⟨gr, 0, none⟩)] u3 (PNumR w.heap.size gr V4 S4 u3)) := by
            rw [hV4, hS4, hC4]
            exact rdsigned_any w.heap.size gr B3 n3' k3' S3 u3 HRu3.out (by omega)
          have HE4 := Lib.hid (⟨hC4, hV4, hS4⟩ : C4 = cntS S3 ∧ V4 = unsg C4.1 ∧ S4 = C4.2)
          clear hC4 hV4 hS4
          go_wp2_with fail
          refine HC4.out.mono ?_
          rintro e u4 ⟨B4, n4', k4', rfl, hr4, hg4⟩
          have HRu4 := Lib.hid hr4
          have hgu4 : wr.grownBy u4 (some gr) := hgu3.trans hg4
          clear hr4 hg4 hgu3 HC3 HRu3
          have HS4 := Lib.hid (HSs.out.grown hgu4 (by intro he; injection he with he; omega))
          have HZ4 := Lib.hid (HZz.out.grown hgu4 (by intro he; injection he with he; omega))
          have HB4 := Lib.hid (HBb.out.grown hgu4 HBb.out.size (fun x hx => by injection hx with hx; omega))
          have HO4 := Lib.hid (HOw.out.kept hgu4 (ownne' HOw.out (by omega)))
          have hsz4 := hgu4.size
          clear hgu4 HC4
          go_upto_region 25 with fail
          have HM5 : Hid (Blk (u4.alloc (.cells #[.int .i64 V1, .int .i64 V2, .int .i64 V3, .int .i64 V4] 95)) u4.heap.size 95 [.int .i64 V1, .int .i64 V2, .int .i64 V3, .int .i64 V4]) := Blk.new _ _ _
          have HS5b := Lib.hid (HS4.out.alloc (.cells #[.int .i64 V1, .int .i64 V2, .int .i64 V3, .int .i64 V4] 95))
          have HZ5b := Lib.hid (HZ4.out.alloc (.cells #[.int .i64 V1, .int .i64 V2, .int .i64 V3, .int .i64 V4] 95))
          have HB5b := Lib.hid (HB4.out.alloc HB4.out.size (.cells #[.int .i64 V1, .int .i64 V2, .int .i64 V3, .int .i64 V4] 95))
          have HO5b := Lib.hid (HO4.out.alloc (.cells #[.int .i64 V1, .int .i64 V2, .int .i64 V3, .int .i64 V4] 95))
          have HR5b := Lib.hid (HRu4.out.below ((Below.refl u4.heap.size u4).alloc (Nat.le_refl _) (.cells #[.int .i64 V1, .int .i64 V2, .int .i64 V3, .int .i64 V4] 95)))
          have hz5 : Hid ((u4.alloc (.cells #[.int .i64 V1, .int .i64 V2, .int .i64 V3, .int .i64 V4] 95)).heap.size = u4.heap.size + 1) := World.size_alloc ..
          generalize u4.alloc (.cells #[.int .i64 V1, .int .i64 V2, .int .i64 V3, .int .i64 V4] 95) = u5 at HM5 HS5b HZ5b HB5b HO5b HR5b hz5 ⊢
          have c16 : u5.cell? ⟨w.heap.size + 1, 16, none⟩ = some v := HS5b.out.cell rfl
          have f16 := HS5b.out.frozen 16
          have x0 : u5.cell? ⟨u4.heap.size, 0, none⟩ = some (.int .i64 V1) := HM5.out.cell rfl
          have x1 : u5.cell? ⟨u4.heap.size, 1, none⟩ = some (.int .i64 V2) := HM5.out.cell rfl
          have x2 : u5.cell? ⟨u4.heap.size, 2, none⟩ = some (.int .i64 V3) := HM5.out.cell rfl
          have x3 : u5.cell? ⟨u4.heap.size, 3, none⟩ = some (.int .i64 V4) := HM5.out.cell rfl
          have hsg := HS5b.out.lt
          have hzB : Bm ≤ u5.heap.size := by have := hz5.out; omega
          go_wp2_with (at_builtin; go_must (refine wpList_app _ rfl _ _ 74 rfl Bm 95 i1 (.agg #[.int .i64 0, .int .i64 0, .int .i64 0, .int .i64 0]) 4 32 Try.underlying74 hi1 hi1z hi1s hi1b rfl (by decide) v q _ rfl (HO5b.out.alloc _) (u5.heap.size + 1) (some ⟨u5.heap.size, 0, none⟩) 1 1 [.int .i64 V1, .int .i64 V2, .int .i64 V3, .int .i64 V4] rfl (((Blk.new u5 95 _).sl rfl).up (by simp)) (mv4_one _ _ _ _) (q + 1) rfl _ rfl _ rfl (by simp only [maxLen]; omega) (by omega) (by rw [World.size_alloc]; omega) ?_; intro A7 k7 u7 hown7 hg7 hat7 hk7 hk8; have HS7 := Lib.hid ((HS5b.out.alloc _).grown hg7 (ownne HO5b.out (by omega))); have HZ7 := Lib.hid ((HZ5b.out.alloc _).grown hg7 (ownne HO5b.out (by omega))); have HB7 := Lib.hid ((HB5b.out.alloc HB5b.out.size _).grown hg7 (by rw [World.size_alloc]; have := HB5b.out.size; omega) (fun x hx => by have := (HO5b.out.lt x hx).1; omega)); have HR7 := Lib.hid ((HR5b.out.below ((Below.refl _ _).alloc (Nat.le_refl _) _)).gb hg7 (fun x hx => by have := (HO5b.out.lt x hx).1; omega)); have HO7 := Lib.hid hown7; have hz7 := hg7.size; rw [World.size_alloc] at hz7; have f16b := HS7.out.frozen 16; have c16b : u7.cell? ⟨w.heap.size + 1, 16, none⟩ = some v := HS7.out.cell rfl; have hsg7 := HS7.out.lt; clear hown7 hg7 hat7 c16 f16 x0 x1 x2 x3 HM5 HS5b HZ5b HB5b HR5b HO5b HS4 HZ4 HB4 HO4 HRu4))
          go_roundg (gk - 1)
          case measure => omega
          case rel =>
            have hset : u7.grownBy (u7.setCell ⟨w.heap.size + 1, 16, none⟩ (.slice A7 (q + 1) k7)) (some (w.heap.size + 1)) := gb_set (World.grownBy.refl u7 _) 16 _
            refine ⟨q + 1, B4, n4', k4', .slice A7 (q + 1) k7, by omega, by go_num, ?_, ?_, HS7.out.set_ 16 _, ?_, HZ7.out.far (by simp) _, HB7.out.setCell (p := ⟨w.heap.size + 1, 16, none⟩) (by dsimp only; omega) _⟩
            · have := hset.size
              omega
            · have h8 := HR7.out.set hset (by omega) (by omega)
              rw [HE4.out.2.2, HE4.out.1, HE3.out.2.2, HE3.out.1, HE2.out.2.2, HE2.out.1, HE1.out.2.2, HE1.out.1, HS0.out] at h8
              exact h8
            · have h8 := ownsRow_setCell_below HO7.out (a := ⟨w.heap.size + 1, 16, none⟩) (by dsimp only; omega) (.slice A7 (q + 1) k7)
              show World.ownsRow _ _ _ _ _ _ (mvVals (_ ++ [_]))
              rw [mvVals_app]
              rw [HE4.out.2.1, HE4.out.1, HE3.out.2.1, HE3.out.2.2, HE3.out.1, HE2.out.2.1, HE2.out.2.2, HE2.out.1, HE1.out.2.1, HE1.out.2.2, HE1.out.1, HS0.out] at h8
              exact h8
        · obtain rfl : q = z := by omega
          obtain ⟨A9, k9, rfl, h9a, h9b⟩ := own_form HOw.out
          have HMl := Lib.hid (mvsG_len cntS (L2, false) q)
          obtain ⟨ms, hms⟩ : ∃ p, p = mvsG cntS q (L2, false) := ⟨_, rfl⟩
          rw [← hms] at HRd HOw HTl HMl
          clear hms
          obtain ⟨ml, L9, bad9⟩ := ms
          have c1 : wr.cell? ⟨gr, 1, none⟩ = some (.bool bad9) := HRd.out.blk.cell rfl
          have c0 : wr.cell? ⟨gr, 0, none⟩ = some (.slice A' n' k') := HRd.out.blk.cell rfl
          have HL9 : Hid (n' = L9.length) := HRd.out.len.symm
          have hsg9 := HSs.out.lt
          clear h9a h9b HRd hq HRd5' HS5 HZ5 HB5 d1 d2 d3
          by_cases hbad : bad9 = true
          · subst hbad
            have HX := Lib.hid (show loadP l = noLd 281 by rw [HTl.out]; unfold tailL; rw [if_pos (Or.inl rfl)])
            go_upto_region 28 with fail
            refine wp_region_lit ?_
            refine Go.wpList_buildTo rfl 76 #[] rfl _ rfl #[.int .i64 0, .int .i64 0, .int .i64 0, .int .i64 0, .int .i64 0, .int .i64 0, .int .i64 0, .int .i64 0, .int .i64 0, .int .i64 0, .int .i64 0, .int .i64 0, .int .i64 0, .int .i64 0, .int .i64 0, .int .i64 0, .slice none 0 0] (by kernel_rfl) ?_
            refine wpList_store_row rfl _ _ _ rfl w.heap.size #[.int .i64 0, .int .i64 0, .int .i64 0, .int .i64 0, .int .i64 0, .int .i64 0, .int .i64 0, .int .i64 0, .int .i64 0, .int .i64 0, .int .i64 0, .int .i64 0, .int .i64 0, .int .i64 0, .int .i64 0, .int .i64 0, .slice none 0 0] rfl rfl _ _ HZz.out size_ses rfl (by simp [Value.oneCell']) ?_
            have HF := setRow_heap wr w.heap.size _ #[.int .i64 0, .int .i64 0, .int .i64 0, .int .i64 0, .int .i64 0, .int .i64 0, .int .i64 0, .int .i64 0, .int .i64 0, .int .i64 0, .int .i64 0, .int .i64 0, .int .i64 0, .int .i64 0, .int .i64 0, .int .i64 0, .slice none 0 0] _ _ HZz.out
            have HB9 : Below w.heap.size w (wr.setRow w.heap.size #[.int .i64 0, .int .i64 0, .int .i64 0, .int .i64 0, .int .i64 0, .int .i64 0, .int .i64 0, .int .i64 0, .int .i64 0, .int .i64 0, .int .i64 0, .int .i64 0, .int .i64 0, .int .i64 0, .int .i64 0, .int .i64 0, .slice none 0 0]) := below_row HBb.out (Nat.le_refl _)
            go_wp2_with fail
            refine bodyPost_ret_by (results_cell_row2 rfl _ _ w.heap.size 76 _ (0, 0) _ rfl HF Try.underlying76 rfl size_ses) rfl ?_
            exact LdR.no HB9 HX.out
          obtain rfl : bad9 = false := by simpa using hbad
          clear hbad
          by_cases hn9 : 0 < n'
          · have d1 : decide ((0 : Int) < n') = true := by simp; omega
            have d2 : (0 : Int) < n' := by omega
            have d3 : decide (0 < n') = true := by simp; omega
            have HX := Lib.hid (show loadP l = noLd 281 by rw [HTl.out]; unfold tailL; rw [if_pos (Or.inr (by intro h9; have h8 := HL9.out; have h7 : L9 = [] := h9; rw [h7] at h8; simp at h8; omega))])
            go_upto_region 28 with fail
            refine wp_region_lit ?_
            refine Go.wpList_buildTo rfl 76 #[] rfl _ rfl #[.int .i64 0, .int .i64 0, .int .i64 0, .int .i64 0, .int .i64 0, .int .i64 0, .int .i64 0, .int .i64 0, .int .i64 0, .int .i64 0, .int .i64 0, .int .i64 0, .int .i64 0, .int .i64 0, .int .i64 0, .int .i64 0, .slice none 0 0] (by kernel_rfl) ?_
            refine wpList_store_row rfl _ _ _ rfl w.heap.size #[.int .i64 0, .int .i64 0, .int .i64 0, .int .i64 0, .int .i64 0, .int .i64 0, .int .i64 0, .int .i64 0, .int .i64 0, .int .i64 0, .int .i64 0, .int .i64 0, .int .i64 0, .int .i64 0, .int .i64 0, .int .i64 0, .slice none 0 0] rfl rfl _ _ HZz.out size_ses rfl (by simp [Value.oneCell']) ?_
            have HF := setRow_heap wr w.heap.size _ #[.int .i64 0, .int .i64 0, .int .i64 0, .int .i64 0, .int .i64 0, .int .i64 0, .int .i64 0, .int .i64 0, .int .i64 0, .int .i64 0, .int .i64 0, .int .i64 0, .int .i64 0, .int .i64 0, .int .i64 0, .int .i64 0, .slice none 0 0] _ _ HZz.out
            have HB9 : Below w.heap.size w (wr.setRow w.heap.size #[.int .i64 0, .int .i64 0, .int .i64 0, .int .i64 0, .int .i64 0, .int .i64 0, .int .i64 0, .int .i64 0, .int .i64 0, .int .i64 0, .int .i64 0, .int .i64 0, .int .i64 0, .int .i64 0, .int .i64 0, .int .i64 0, .slice none 0 0]) := below_row HBb.out (Nat.le_refl _)
            go_wp2_with fail
            refine bodyPost_ret_by (results_cell_row2 rfl _ _ w.heap.size 76 _ (0, 0) _ rfl HF Try.underlying76 rfl size_ses) rfl ?_
            exact LdR.no HB9 HX.out
          obtain rfl : n' = 0 := by omega
          clear hn9
          have HTl2 := Lib.hid (show loadP l = if sesErr SS q ≠ 0 then noLd (sesErr SS q) else (0, SS, ml) by
            rw [HTl.out]
            unfold tailL
            rw [if_neg (by
              rintro (h9 | h9)
              · cases h9
              · exact h9 (List.eq_nil_of_length_eq_zero HL9.out.symm)), ← HSSd.out])
          go_upto_region 29 with fail
          refine wp_region_lit ?_
          refine wpList_load_row rfl _ _ rfl (w.heap.size + 1) rfl 76 _ (0, 0) _ HSs.out Try.underlying76 rfl size_ses ?_
          clear c0 c1
          go_wp2_with fail
          refine (scheck_any SS A9 q k9 wr).mono ?_
          rintro e w9 ⟨rfl, hb9⟩
          have HS9 := Lib.hid (HSs.out.below hb9 HSs.out.lt)
          have HZ9 := Lib.hid (HZz.out.below hb9 HZz.out.lt)
          have HB9 := Lib.hid (HBb.out.trans (hb9.mono HBb.out.size))
          have HO9 := Lib.hid (HOw.out.below hb9)
          clear hb9
          obtain ⟨er, her⟩ : ∃ er, er = sesErr SS q := ⟨_, rfl⟩
          rw [← her] at HTl2 ⊢
          clear her
          by_cases h0 : er = 0
          · subst h0
            go_upto_region 32 with fail
            refine wp_region_lit ?_
            refine wpList_load_row rfl _ _ rfl (w.heap.size + 1) rfl 76 _ (0, 0) _ HS9.out Try.underlying76 rfl size_ses ?_
            refine wpList_store_row rfl _ _ _ rfl w.heap.size _ rfl rfl _ _ HZ9.out size_ses rfl (ses_one SS A9 q k9) ?_
            have HF := Lib.hid (setRow_heap w9 w.heap.size _ (sesL SS (.slice A9 q k9)).toArray _ _ HZ9.out)
            go_wp2_with fail
            refine bodyPost_ret_by (results_cell_row2 rfl _ _ w.heap.size 76 _ (0, 0) _ rfl HF.out Try.underlying76 rfl size_ses) rfl ?_
            have hgw : w9.grownBy (w9.setRow w.heap.size (sesL SS (.slice A9 q k9)).toArray) (some w.heap.size) := ⟨rfl, rfl, rfl, by simp [World.setRow], fun k hk hne => setRow_other w9 w.heap.size k _ (by intro he; exact hne (by rw [he]))⟩
            have hX : loadP l = (0, SS, ml) := by rw [HTl2.out, if_neg (by simp)]
            refine ⟨A9, k9, ?_, ?_, below_row HB9.out (Nat.le_refl _)⟩
            · rw [hX]
              have h7 : ml.length = q := HMl.out
              show _ = Ending.returned (.tuple #[sesV SS (.slice A9 ml.length k9), .int .i64 0])
              rw [h7]
              rfl
            · rw [hX]
              have h7 : ml.length = q := HMl.out
              show World.ownsRow _ _ _ _ (.slice A9 ml.length k9) ml.length (mvVals ml)
              rw [h7]
              exact ownlow (HO9.out.kept hgw (ownne' HO9.out (by omega))) (by omega)
          · have b1 : (er != 0) = true := by simp [h0]
            go_upto_region 31 with fail
            refine wp_region_lit ?_
            refine Go.wpList_buildTo rfl 76 #[] rfl _ rfl #[.int .i64 0, .int .i64 0, .int .i64 0, .int .i64 0, .int .i64 0, .int .i64 0, .int .i64 0, .int .i64 0, .int .i64 0, .int .i64 0, .int .i64 0, .int .i64 0, .int .i64 0, .int .i64 0, .int .i64 0, .int .i64 0, .slice none 0 0] (by kernel_rfl) ?_
            refine wpList_mv rfl _ rfl (.int .i64 er) rfl ?_
            refine wpList_store_row rfl _ _ _ rfl w.heap.size #[.int .i64 0, .int .i64 0, .int .i64 0, .int .i64 0, .int .i64 0, .int .i64 0, .int .i64 0, .int .i64 0, .int .i64 0, .int .i64 0, .int .i64 0, .int .i64 0, .int .i64 0, .int .i64 0, .int .i64 0, .int .i64 0, .slice none 0 0] rfl rfl _ _ HZ9.out size_ses rfl (by simp [Value.oneCell']) ?_
            have HF := setRow_heap w9 w.heap.size _ #[.int .i64 0, .int .i64 0, .int .i64 0, .int .i64 0, .int .i64 0, .int .i64 0, .int .i64 0, .int .i64 0, .int .i64 0, .int .i64 0, .int .i64 0, .int .i64 0, .int .i64 0, .int .i64 0, .int .i64 0, .int .i64 0, .slice none 0 0] _ _ HZ9.out
            have HB10 : Below w.heap.size w (w9.setRow w.heap.size #[.int .i64 0, .int .i64 0, .int .i64 0, .int .i64 0, .int .i64 0, .int .i64 0, .int .i64 0, .int .i64 0, .int .i64 0, .int .i64 0, .int .i64 0, .int .i64 0, .int .i64 0, .int .i64 0, .int .i64 0, .int .i64 0, .slice none 0 0]) := below_row HB9.out (Nat.le_refl _)
            go_wp2_with fail
            refine bodyPost_ret_by (results_cell_row2 rfl _ _ w.heap.size 76 _ (0, 0) _ rfl HF Try.underlying76 rfl size_ses) rfl ?_
            exact LdR.no HB10 (by rw [HTl2.out, if_pos h0])
end Go.Proofs.Ytgbopmgeicokoaa
