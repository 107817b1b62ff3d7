/-
  reclaimref27.Clocks.
-/
import Derived.Test.YtgbopmgeicokoaaBook
import Derived.Test.YtgbopmgeicokoaaPClk
import Derived.Test.YtgbopmgeicokoaaClkRs
import Derived.Deep.DeepCutAuto
import Derived.Deep.RegionWith
import Derived.Deep.RegionLaw
namespace Go.Proofs.Ytgbopmgeicokoaa
open Go.RowKit

theorem nodup_at {gs : List Nat} (h : gs.Nodup) {i j x : Nat} (hi : gs[i]? = some x) (hj : gs[j]? = some x) : i = j := by
  obtain ⟨hl1, hv1⟩ := List.getElem?_eq_some_iff.1 hi
  obtain ⟨hl2, hv2⟩ := List.getElem?_eq_some_iff.1 hj
  have hp := List.pairwise_iff_getElem.1 h
  rcases Nat.lt_trichotomy i j with hlt | he | hlt
  · exact absurd (hv1.trans hv2.symm) (hp i j hl1 hl2 hlt)
  · exact he
  · exact absurd (hv2.trans hv1.symm) (hp j i hl2 hl1 hlt)
/-- the threads' clocks: headers at gh, a block for each -/
def ThAt (W : World) (gh T hi : Nat) (gs : List Nat) (F : Nat → Clk) : Prop :=
  gs.length ≤ T ∧ gs.Nodup ∧ gh < hi ∧ (∀ g ∈ gs, gh < g ∧ g < hi) ∧ Blk W gh 30 (gs.map (fun g => Value.slice (some ⟨g, 0, none⟩) T T) ++ List.replicate (T - gs.length) (.slice none 0 0)) ∧
    ∀ (t g : Nat), gs[t]? = some g → Blk W g 3 (ints (clkL T (F t)))
section
variable {W W' : World} {gh T hi : Nat} {gs : List Nat} {F : Nat → Clk}
theorem ThAt.keep (h : ThAt W gh T hi gs F) (hb : Below hi W W') : ThAt W' gh T hi gs F := by
  obtain ⟨h1, h2, h0, h3, h4, h5⟩ := h
  exact ⟨h1, h2, h0, h3, h4.below hb h0, fun t g hg => (h5 t g hg).below hb (h3 g (List.mem_of_getElem? hg)).2⟩
theorem ThAt.up (h : ThAt W gh T hi gs F) {hi' : Nat} (hh : hi ≤ hi') : ThAt W gh T hi' gs F := by
  obtain ⟨h1, h2, h0, h3, h4, h5⟩ := h
  exact ⟨h1, h2, by omega, fun g hg => ⟨(h3 g hg).1, by have := (h3 g hg).2; omega⟩, h4, h5⟩
/-- one thread's block written -/
theorem ThAt.set (h : ThAt W gh T hi gs F) {t g : Nat} (hg : gs[t]? = some g) (hk : W.grownBy W' (some g)) {F1 : Clk} (hB : Blk W' g 3 (ints (clkL T F1))) : ThAt W' gh T hi gs (fun i => if i = t then F1 else F i) := by
  obtain ⟨h1, h2, h0, h3, h4, h5⟩ := h
  have hgh := (h3 g (List.mem_of_getElem? hg)).1
  refine ⟨h1, h2, h0, h3, h4.grown hk (by intro he; injection he with he; omega), fun i gi hgi => ?_⟩
  by_cases hi : i = t
  · subst hi
    rw [hg] at hgi
    injection hgi with hgi
    subst hgi
    dsimp only
    rw [if_pos rfl]
    exact hB
  · dsimp only
    rw [if_neg hi]
    refine (h5 i gi hgi).grown hk (fun he => ?_)
    injection he with he
    subst he
    exact hi (nodup_at h2 hgi hg)
end

theorem zero_row (T t : Nat) : (madeCells (Value.int .i64 0).cells (T * 1)).toList = ints (clkL T (CS.zero.th t)) := by
  show (madeCells #[Value.int .i64 0] (T * 1)).toList = _
  rw [madeCells_one, Nat.mul_one]
  unfold ints clkL CS.zero
  simp [List.map_const']
theorem gb_none {w w' : World} (h : w.grownBy w' none) : Below w.heap.size w w' := (Below.refl _ _).grown h (Nat.le_refl _) (fun q hq => by cases hq)
theorem ThAt.next {W : World} {gh T hi hi' t g : Nat} {gs : List Nat} {F : Nat → Clk} (h : ThAt W gh T hi gs F) (hl : gs.length = t) (ht : t < T) (hB : Blk W g 3 (ints (clkL T (F t)))) (hlt : g < hi') (hg : hi ≤ g) :
    ThAt (W.setCell ⟨gh, t, none⟩ (.slice (some ⟨g, 0, none⟩) T T)) gh T hi' (gs ++ [g]) F := by
  subst hl
  obtain ⟨h1, h2, h0, h3, h4, h5⟩ := h
  refine ⟨by simp; omega, ?_, by omega, ?_, ?_, ?_⟩
  · rw [List.nodup_append]
    refine ⟨h2, by simp, ?_⟩
    intro a ha b hb
    simp at hb
    subst hb
    have := (h3 a ha).2
    omega
  · intro q hq
    rcases List.mem_append.1 hq with hq | hq
    · have := h3 q hq
      omega
    · simp at hq
      subst hq
      omega
  · have h6 := h4.set_ gs.length (.slice (some ⟨g, 0, none⟩) T T)
    have e := set_fill (pre := gs.map (fun g => Value.slice (some ⟨g, 0, none⟩) T T)) (z := Value.slice none 0 0) (v := .slice (some ⟨g, 0, none⟩) T T) (j := gs.length) (N := T) (by simp) ht
    rw [e] at h6
    simpa using h6
  · intro i q hq
    by_cases hi2 : i < gs.length
    · rw [List.getElem?_append_left hi2] at hq
      have := (h3 q (List.mem_of_getElem? hq)).1
      exact (h5 i q hq).far (by dsimp only; omega) _
    · rw [List.getElem?_append_right (by omega)] at hq
      have hi3 : i = gs.length := by
        have := (List.getElem?_eq_some_iff.1 hq).1
        simp at this
        omega
      subst hi3
      simp at hq
      subst hq
      exact hB.far (by dsimp only; omega) _

theorem ThAt.fn {W : World} {gh T hi : Nat} {gs : List Nat} {F F' : Nat → Clk} (h : ThAt W gh T hi gs F) (hF : ∀ t, F t = F' t) : ThAt W gh T hi gs F' := by
  have : F = F' := funext hF
  rw [← this]
  exact h
/-- what stands behind a round -/
def RInv (c : Cfg) (tr : List Acc) (w0 : World) (T : Nat) (gs : List Nat) (gb : Nat) (out : Value) (j m : Nat) (s : CS) (W : World) : Prop :=
  Below w0.heap.size w0 W ∧ ThAt W w0.heap.size T gb gs s.th ∧ ∃ va L vc Fb, L.length ≤ m ∧ Bk W (gb + 1) T gb out j (outC c tr) va L vc L.length Fb (fun _ => False) ∧ ∀ a, s.wd a = bookF L Fb a
/-- what stands within a round -/
structure RSt (c : Cfg) (tr : List Acc) (w0 : World) (T : Nat) (gs : List Nat) (gb : Nat) (out : Value) (j : Nat) (va : Value) (L : List Int) (vc : Value) (Fb : Nat → Clk) (F : Nat → Clk) (ga : Nat) (x : Acc) (W : World) : Prop where
  bel : Below w0.heap.size w0 W
  th : ThAt W w0.heap.size T gb gs F
  bk : Bk W (gb + 1) T gb out j (outC c tr) va L vc L.length Fb (fun _ => False)
  ac : Blk W ga 61 (accL x)
section
variable {c : Cfg} {tr : List Acc} {w0 : World} {T : Nat} {gs : List Nat} {gb : Nat} {out : Value} {j : Nat} {va : Value} {L : List Int} {vc : Value} {Fb : Nat → Clk} {F : Nat → Clk} {ga : Nat} {x : Acc} {W W' : World}
theorem RSt.keep (h : RSt c tr w0 T gs gb out j va L vc Fb F ga x W) (hb : Below W.heap.size W W') : RSt c tr w0 T gs gb out j va L vc Fb F ga x W' :=
  ⟨h.bel.trans (hb.mono h.bel.size), h.th.keep (hb.mono (by have := h.bk.size; omega)), h.bk.keep hb, h.ac.below hb h.ac.lt⟩
theorem RSt.thr {t g : Nat} {F1 : Clk} (h : RSt c tr w0 T gs gb out j va L vc Fb F ga x W) (hg : gs[t]? = some g) (hk : W.grownBy W' (some g)) (hB : Blk W' g 3 (ints (clkL T F1))) (hga : gb < ga) : RSt c tr w0 T gs gb out j va L vc Fb (fun i => if i = t then F1 else F i) ga x W' := by
  have hm := h.th.2.2.2.1 g (List.mem_of_getElem? hg)
  exact ⟨below_gb h.bel hk (by omega) h.bel.size, h.th.set hg hk hB, h.bk.low hk (by omega) (by omega), h.ac.grown hk (by intro he; injection he with he; omega)⟩
theorem RSt.fn {F' : Nat → Clk} (h : RSt c tr w0 T gs gb out j va L vc Fb F ga x W) (hF : ∀ t, F t = F' t) : RSt c tr w0 T gs gb out j va L vc Fb F' ga x W := ⟨h.bel, h.th.fn hF, h.bk, h.ac⟩
end
/-- what stands ahead of the writing of a word's clock -/
def RS2 (c : Cfg) (tr : List Acc) (w0 : World) (T : Nat) (gs : List Nat) (gb : Nat) (out : Value) (j : Nat) (va : Value) (L : List Int) (vc : Value) (mc : Nat) (Fb : Nat → Clk) (hole : Nat → Prop) (F : Nat → Clk) (W : World) : Prop :=
  Below w0.heap.size w0 W ∧ ThAt W w0.heap.size T gb gs F ∧ Bk W (gb + 1) T gb out j (outC c tr) va L vc mc Fb hole
theorem _root_.Go.Proofs.Ytgbopmgeicokoaa.Bk.clk_own {W : World} {B T gb : Nat} {out : Value} {j : Nat} {Fo : Nat → Clk} {va : Value} {L : List Int} {vc : Value} {mc : Nat} {Fb : Nat → Clk} {hole : Nat → Prop} (h : Bk W B T gb out j Fo va L vc mc Fb hole) : ∃ xb, W.ownsRow B 30 1 vc mc xb ∧ xb.length = mc := by
  obtain ⟨hb, ho, a1, a2, _⟩ := h.ex
  exact ⟨_, a1, by simpa using a2⟩
theorem _root_.Go.Proofs.Ytgbopmgeicokoaa.Blk.drewB {W : World} {g : Nat} {t : TypeId} {cs : List Value} (h : Blk W g t cs) : Blk W.drew g t cs := h
theorem below_gb' {w0 w w' : World} {g i : Nat} {u : Value} {row : Option Nat} (h : Below w0.heap.size w0 w) (hg : w.grownBy w' row) (hB : ∀ q, row = some q → w0.heap.size ≤ q) (hgB : w0.heap.size ≤ g) : Below w0.heap.size w0 (w'.setCell ⟨g, i, none⟩ u) := (h.grown hg h.size hB).setCell (by dsimp only; omega) _
theorem ints_one1 {a : Int} : ∀ u ∈ [Value.int .i64 a], u.oneCell' = true := by
  intro u hu
  simp at hu
  subst hu
  rfl
theorem own_pos {w : World} {B e n : Nat} {v : Value} {xs : List Value} (h : w.ownsRow B e 1 v n xs) (hn : 0 < n) : ∃ g k, v = .slice (some ⟨g, 0, none⟩) n k ∧ g < w.heap.size ∧ n ≤ k ∧ k ≤ maxLen ∧ B ≤ g ∧ ∀ i, w.frozen? ⟨g, i, none⟩ = false := by
  rcases h.2 with ⟨_, h0⟩ | ⟨g, cap, cur, rfl, hb, hg, h1, h2, _⟩
  · omega
  · exact ⟨g, cap, rfl, (Array.getElem?_eq_some_iff.1 hg).1, h1, h2, hb, fun i => by simp [World.frozen?, hg]⟩

theorem stepC_th {c : Cfg} {s : CS} {x : Acc} {t : Nat} (hT : x.thread = t) {M : Clk} (hM : mineC c s x = M) (i : Nat) : (if i = t then M else s.th i) = (stepC c s x).th i := by
  have hTn : x.thread.toNat = t := by omega
  unfold stepC
  dsimp only
  rw [hTn, hM]
theorem mine_none {c : Cfg} {s : CS} {x : Acc} {t : Nat} (hT : x.thread = t) (h : s.wd x.addr = none) : mineC c s x = bump (s.th t) t := by
  have hTn : x.thread.toNat = t := by omega
  unfold mineC
  rw [h, hTn]
  split
  · rfl
  · split <;> rfl
theorem mine_some {c : Cfg} {s : CS} {x : Acc} {t : Nat} {g : Clk} (hT : x.thread = t) (hp : plainB c x.addr = false) (h2 : ¬ x.kind = 2) (h : s.wd x.addr = some g) : mineC c s x = maxC (bump (s.th t) t) g := by
  have hTn : x.thread.toNat = t := by omega
  unfold mineC
  rw [if_neg (by rw [hp]; decide), if_neg h2, h, hTn]
theorem stepC_wd {c : Cfg} {s : CS} {x : Acc} (hp : plainB c x.addr = false) (hw : wroteB x = true) (a : Int) : (stepC c s x).wd a = if a = x.addr then some (mineC c s x) else s.wd a := by
  unfold stepC
  dsimp only
  by_cases h : a = x.addr
  · rw [if_pos ⟨h, hp, hw⟩, if_pos h]
  · rw [if_neg (fun hh => h hh.1), if_neg h]
theorem stepC_wd' {c : Cfg} {s : CS} {x : Acc} (h : ¬ (plainB c x.addr = false ∧ wroteB x = true)) (a : Int) : (stepC c s x).wd a = s.wd a := by
  unfold stepC
  dsimp only
  rw [if_neg (fun hh => h hh.2)]
theorem bump_set (T t : Nat) (f : Clk) : (ints (clkL T f)).set t (.int .i64 (f t + 1)) = ints (clkL T (bump f t)) := by
  rw [clkL_set]
  congr 1
  refine clkL_congr fun k _ => ?_
  unfold bump
  by_cases hk : k = t
  · subst hk; simp
  · simp [hk]

set_option maxRecDepth 100000 in
set_option maxHeartbeats 8000000 in
theorem rclocks_any (c : Cfg) (h0 h2 h3 : Value) (A : Option Addr) (n k : Nat) (tr : List Acc) (w : World) (h : RunAt w w.heap.size A n k tr) (hn8 : n * 128 ≤ 140737488355328) (he0 : runErr c tr = 0) :
    Calls Try.prog 25 #[cfgV c, .agg #[h0, .slice A n k, h2, h3]] w
      (fun e w' => ∃ A' k' B, e = .returned (.slice A' n k') ∧ Below w.heap.size w w' ∧ Rows w' B c.threads.toNat (.slice A' n k') n (outC c tr) ∧ n ≤ k' ∧ k' ≤ maxLen) := by
  have hlen := h.len
  have hk1 := h.nk.1
  have hk2 := h.nk.2
  unfold maxLen at hk2
  obtain ⟨w0, hw0, hb0, hz0, HA, HR, HT⟩ := two_boxes c w h0 h2 h3 A n k tr h
  have HW0 := Lib.hid hw0
  have HLen := Lib.hid hlen
  have HE := Lib.hid he0
  have hcT := ((okC_iff c).1 (runErr_ok he0).1).t1
  have hcT2 := ((okC_iff c).1 (runErr_ok he0).1).t2
  obtain ⟨T, hT⟩ : ∃ T : Nat, c.threads = T := ⟨c.threads.toNat, by omega⟩
  have hTn : c.threads.toNat = T := by omega
  have hT1 : 1 ≤ T := by omega
  have hT16 : T ≤ 16 := by omega
  have HTn := Lib.hid hTn
  have HCT := Lib.hid hT
  obtain ⟨i1, hi1, hi1z, hi1s, hi1b⟩ := info_parts info_int'
  obtain ⟨i2, hi2, hi2z, hi2s, hi2b⟩ := info_parts info_ints'
  have HZ0 := Lib.hid hz0
  have hzw : w.heap.size < w0.heap.size := by omega
  clear hw0 h hlen he0 hTn hT hz0
  obtain ⟨q0, q1, q2, q3, q4, q5, q6⟩ := HA.out w0 (Below.refl _ _)
  rw [HCT.out] at q0
  go_enter Try.func25, Try.ntmps25
  go_upto_region 1 with fail
  rw [← HW0.out]
  go_wp2_with (at_make; go_must (refine wpList_make_full _ rfl _ _ 51 rfl w0.heap.size 30 i2 (.slice none 0 0) 1 Try.underlying51 hi2 hi2z hi2s .i64 .i64 _ _ T rfl rfl (by omega) (by omega) (by rw [hi2b]; omega) (by simp only [maxLen]; omega) (Nat.le_refl _) ?_; intro w1 hown1 hg1))
  have hF1 := own_full hown1
  have hL1 : (madeCells (Value.slice none 0 0).cells (T * 1)).toList = List.replicate T (.slice none 0 0) := by
    show (madeCells #[Value.slice none 0 0] (T * 1)).toList = _
    rw [madeCells_one, Nat.mul_one]
  rw [hL1] at hF1
  have hb1 : Below w0.heap.size w0 w1 := (Below.refl _ _).grown hg1 (Nat.le_refl _) (fun q hq => by cases hq)
  have hz1 := hF1.lt
  have HF1 := Lib.hid hF1
  clear hown1 hg1 hL1 hF1 q0 q1 q2 q3 q4 q5 q6
  go_loopg [6] T (fun gk i wr => ∃ (t : Nat) (gs : List Nat), t + gk = T ∧ i = .int .i64 t ∧ Below w0.heap.size w0 wr ∧ gs.length = t ∧ Hid (ThAt wr w0.heap.size T wr.heap.size gs CS.zero.th))
  case atStart => exact ⟨0, [], by omega, rfl, hb1, rfl, ⟨by simp, List.nodup_nil, hz1, by simp, by simpa using HF1.out, by simp⟩⟩
  case round =>
    obtain ⟨t, gs, ht, rfl, hbr, hgl, HTh⟩ := hrel
    have hzr := hbr.size
    obtain ⟨q0, q1, q2, q3, q4, q5, q6⟩ := HA.out wr hbr
    have hwl : w.heap.size < wr.heap.size := by omega
    by_cases hlt : t < T
    · have e1 : (t : Int) < T := by omega
      have e0 : (0 : Int) ≤ t := by omega
      rw [HCT.out] at q0
      have hbk := HTh.out.2.2.2.2.1
      rw [hgl] at hbk
      have hat : (gs.map (fun g => Value.slice (some ⟨g, 0, none⟩) T T) ++ List.replicate (T - t) (.slice none 0 0))[t]? = some (.slice none 0 0) := by
        rw [List.getElem?_append_right (by simp [hgl]), List.length_map, hgl, Nat.sub_self, List.getElem?_replicate, if_pos (by omega)]
      go_upto_region 5 with fail
      go_wp2_with (at_make; go_must (refine wpList_make_full _ rfl _ _ 30 rfl w0.heap.size 3 i1 (.int .i64 0) 1 Try.underlying30 hi1 hi1z hi1s .i64 .i64 _ _ T rfl rfl (by omega) (by omega) (by rw [hi1b]; omega) (by simp only [maxLen]; omega) hzr ?_; intro w3 hown3 hg3; have hB3 := Blk.grown hbk hg3 (by simp); have c3 := hB3.cell (i := t) hat; have cf3 := hB3.frozen t))
      have hF3 := own_full hown3
      have hL3 : (madeCells (Value.int .i64 0).cells (T * 1)).toList = ints (clkL T (CS.zero.th t)) := zero_row T t
      rw [hL3] at hF3
      have hz3 := hg3.size
      have hb3 : Below w0.heap.size w0 w3 := hbr.grown hg3 hzr (fun q hq => by cases hq)
      go_roundg (gk - 1)
      case measure => omega
      case rel =>
        refine ⟨t + 1, gs ++ [wr.heap.size], by omega, by go_num, hb3.setCell (Nat.le_refl _) _, by simp [hgl], ?_⟩
        have hT3 := HTh.out.keep (gb_none hg3)
        exact ThAt.next hT3 hgl hlt hF3 (by simpa using hF3.lt) (Nat.le_refl _)
    · obtain rfl : T = t := by omega
      obtain ⟨wt, hwt⟩ : ∃ wt : World, wt = wr := ⟨_, rfl⟩
      subst hwt
      have hqc := HCT.out
      clear hqc q0 q1 q2 q3 q4 q5 q6
      obtain ⟨q0, q1, q2, q3, q4, q5, q6⟩ := HA.out wt hbr
      rw [HCT.out] at q0
      go_wp2_with fail
      go_loopg [8, 9] n (fun gk v0 i wr => ∃ (j : Nat) (v : Value), j + gk = n ∧ i = .int .i64 j ∧ v = v0 ∧ Hid (RInv c tr w0 T gs wt.heap.size v j j (csAt c tr j) wr))
      case atStart =>
        refine ⟨0, .slice none 0 0, by omega, rfl, rfl, hbr.alloc hzr _, HTh.out.keep ((Below.refl _ _).alloc (Nat.le_refl _) _), .slice none 0 0, [], .slice none 0 0, fun _ _ => 0, Nat.le_refl _, ⟨by omega, by simp, Blk.new wt 154 _, World.ownsRow_nil _ _ _ _, [], [], World.ownsRow_nil _ _ _ _, rfl, World.ownsRow_nil _ _ _ _, rfl, by simp, by simp, Or.inl rfl⟩, fun _ => rfl⟩
      case round =>
        clear q0 q1 q2 q3 q4 q5 q6
        obtain ⟨j, v, hj, rfl, rfl, HI⟩ := hrel
        have hbx := HI.out.1
        have hzx := hbx.size
        have hwl2 : w.heap.size < wr.heap.size := by omega
        have hwl3 : w.heap.size + 1 < wr.heap.size := by have := HZ0.out; omega
        obtain ⟨p0, p1, p2, p3⟩ := HR.out wr hbx
        by_cases hlt2 : j < n
        · obtain ⟨x, hx⟩ := at_lt (by rw [HLen.out]; exact hlt2 : j < tr.length)
          obtain ⟨b, o, rfl, hb, x0, x1, x2, x3, x4, x5, x6⟩ := (HT.out wr hbx).at_ hx
          obtain ⟨t, ht, ht16, htc⟩ := acc_thread HE.out hx
          have htT : t < T := by have := HCT.out; omega
          obtain ⟨_, HThr, va, L, vc, Fb, hLj, HBk, HWd⟩ := HI.out
          obtain ⟨g, hg⟩ := at_lt (show t < gs.length by omega)
          have hgm := HThr.2.2.2.1 g (List.mem_of_getElem? hg)
          have HG := Lib.hid hg
          have HX := Lib.hid hx
          have HT1 := Lib.hid ht
          have HWD : Hid (∀ a, (csAt c tr j).wd a = bookF L Fb a) := HWd
          have hbsz := HBk.size
          rw [ht] at x1
          have HSt : Hid (RSt c tr w0 T gs wt.heap.size v j va L vc Fb (csAt c tr j).th wr.heap.size x (wr.alloc (.cells #[.int .i64 x.move, .int .i64 t, .int .i64 x.kind, .int .i64 x.addr, .int .u64 x.old, .int .u64 x.new, .int .u64 x.saw] 61))) := by
            rw [← ht]
            exact ⟨hbx.alloc hzx _, HThr.keep ((Below.refl _ _).alloc (by omega) _), HBk.keep ((Below.refl _ _).alloc (Nat.le_refl _) _), Blk.new _ _ _⟩
          have e1 : (j : Int) < n := by omega
          have e0 : (0 : Int) ≤ j := by omega
          have f1 : (t : Int) < T := by omega
          have f0 : (0 : Int) ≤ t := by omega
          clear HBk HWd HThr hx ht hg
          go_upto_region 12 with fail
          generalize wr.alloc (.cells #[.int .i64 x.move, .int .i64 t, .int .i64 x.kind, .int .i64 x.addr, .int .u64 x.old, .int .u64 x.new, .int .u64 x.saw] 61) = wa at HSt ⊢
          clear p0 p1 p2 p3 x0 x1 x2 x3 x4 x5 x6
          have hbd := bnd_at c tr j (by rw [HLen.out]; omega)
          have hbT := hbd.1 t t
          have hw1 : IntKind.i64.wrap ((csAt c tr j).th t t + 1) = (csAt c tr j).th t t + 1 := IntWalk.i64_in _ (by omega)
          have y1 : wa.cell? ⟨wr.heap.size, 1, none⟩ = some (.int .i64 t) := by rw [← HT1.out]; exact HSt.out.ac.cell rfl
          have ch : wa.cell? ⟨w0.heap.size, t, none⟩ = some (.slice (some ⟨g, 0, none⟩) T T) := HSt.out.th.2.2.2.2.1.cell (by rw [List.getElem?_append_left (by simp; omega), List.getElem?_map, HG.out]; rfl)
          have HgB := Lib.hid (HSt.out.th.2.2.2.2.2 t g HG.out)
          have c1 : wa.cell? ⟨g, t, none⟩ = some (.int .i64 ((csAt c tr j).th t t)) := HgB.out.cell (clkV_get htT)
          have cf := HgB.out.frozen t
          have hga : wt.heap.size < wr.heap.size := by omega
          clear hbd hbT
          go_upto_region 14 with fail
          have HS1 : Hid (RSt c tr w0 T gs wt.heap.size v j va L vc Fb (fun i => if i = t then bump ((csAt c tr j).th t) t else (csAt c tr j).th i) wr.heap.size x (wa.setCell ⟨g, t, none⟩ (.int .i64 ((csAt c tr j).th t t + 1)))) := by
            refine HSt.out.thr HG.out (gb_setCell (World.grownBy.refl _ _) _ _) ?_ hga
            have h5 := HgB.out.set_ t (.int .i64 ((csAt c tr j).th t t + 1))
            rw [bump_set] at h5
            exact h5
          clear c1 cf y1 ch hw1
          generalize wa.setCell ⟨g, t, none⟩ (.int .i64 ((csAt c tr j).th t t + 1)) = W1 at HS1 ⊢
          clear HgB HSt
          have hokC := (okC_iff c).1 (runErr_ok HE.out).1
          have HC1 := Lib.hid (HA.out W1 HS1.out.bel)
          obtain ⟨q0, q1, q2, q3, q4, q5, q6⟩ := HC1.out
          have y3 : W1.cell? ⟨wr.heap.size, 3, none⟩ = some (.int .i64 x.addr) := HS1.out.ac.cell rfl
          go_wp2_with fail
          refine (plain_any c hokC x.addr _).mono ?_
          rintro e W2 ⟨rfl, hb2⟩
          clear q0 q1 q2 q3 q4 q5 q6 y3 hokC
          have HS2 := Lib.hid (HS1.out.keep hb2)
          clear hb2 HC1 HS1
          go_upto_if 58 with fail
          go_cut [] (fun wc => Hid (RInv c tr w0 T gs wt.heap.size v j (j + 1) (stepC c (csAt c tr j) x) wc))
          case first =>
            cases hp : plainB c x.addr with
            | true =>
              have HP := Lib.hid hp
              clear hp
              go_wp2_with fail
              go_meet
              exact ⟨HS2.out.bel, HS2.out.th.fn (stepC_th HT1.out (mine_plain HT1.out HP.out)), va, L, vc, Fb, Nat.le_succ_of_le hLj, HS2.out.bk, fun a => by rw [stepC_wd' (fun hh => by rw [HP.out] at hh; cases hh.1)]; exact HWD.out a⟩
            | false =>
              have HP := Lib.hid hp
              clear hp
              obtain ⟨Aa, ka, hva, hka1, hka2⟩ := own_form HS2.out.bk.addrs
              subst hva
              have hgbl := HS2.out.bk.blk.lt
              have y3 : W2.cell? ⟨wr.heap.size, 3, none⟩ = some (.int .i64 x.addr) := HS2.out.ac.cell rfl
              go_wp2_with fail
              refine (of_any wt.heap.size x.addr L Aa L.length ka _ (Sl.of_own HS2.out.bk.addrs) (by unfold maxLen; unfold maxLen at hka2; omega) hgbl (HS2.out.bk.blk.cell rfl)).mono ?_
              rintro e W3 ⟨rfl, hb3⟩
              have HS3 := Lib.hid (HS2.out.keep hb3)
              clear hb3 HS2 y3 hgbl
              rcases of_from x.addr L 0 with hA | ⟨i, hA, hAi⟩
              · rw [hA]
                have hwn : (csAt c tr j).wd x.addr = none := by rw [HWD.out]; unfold bookF; rw [if_pos hA]
                have HA1 := Lib.hid hA
                have hmn := mine_none (c := c) HT1.out hwn
                have HS4 := Lib.hid (HS3.out.fn (stepC_th HT1.out hmn))
                clear hA hwn hmn HS3
                have y0 : W3.cell? ⟨wr.heap.size, 0, none⟩ = some (.int .i64 x.move) := HS4.out.ac.cell rfl
                have y1 : W3.cell? ⟨wr.heap.size, 1, none⟩ = some (.int .i64 x.thread) := HS4.out.ac.cell rfl
                have y2 : W3.cell? ⟨wr.heap.size, 2, none⟩ = some (.int .i64 x.kind) := HS4.out.ac.cell rfl
                have y3 : W3.cell? ⟨wr.heap.size, 3, none⟩ = some (.int .i64 x.addr) := HS4.out.ac.cell rfl
                have y4 : W3.cell? ⟨wr.heap.size, 4, none⟩ = some (.int .u64 x.old) := HS4.out.ac.cell rfl
                have y5 : W3.cell? ⟨wr.heap.size, 5, none⟩ = some (.int .u64 x.new) := HS4.out.ac.cell rfl
                have y6 : W3.cell? ⟨wr.heap.size, 6, none⟩ = some (.int .u64 x.saw) := HS4.out.ac.cell rfl
                go_wp2_with fail
                refine (rwrote_any x _).mono ?_
                rintro e W4 ⟨rfl, hb4⟩
                have HS5 := Lib.hid (HS4.out.keep hb4)
                clear y0 y1 y2 y3 y4 y5 y6 hb4 HS4
                cases hwr : wroteB x with
                | false =>
                  have HWr := Lib.hid hwr
                  clear hwr
                  go_wp2_with fail
                  go_meet
                  exact ⟨HS5.out.bel, HS5.out.th, _, L, vc, Fb, Nat.le_succ_of_le hLj, HS5.out.bk, fun a => by rw [stepC_wd' (same_no HWr.out)]; exact HWD.out a⟩
                | true =>
                  have HWr := Lib.hid hwr
                  clear hwr
                  have b0 : W4.cell? ⟨wt.heap.size, 0, none⟩ = some (.slice Aa L.length ka) := HS5.out.bk.blk.cell rfl
                  have y3 : W4.cell? ⟨wr.heap.size, 3, none⟩ = some (.int .i64 x.addr) := HS5.out.ac.cell rfl
                  have hgbl := HS5.out.bk.blk.lt
                  have hgal := HS5.out.ac.lt
                  have hbs4 := HS5.out.bk.size
                  have hd0 := HS5.out.keep (Below.refl _ _).drew
                  have hl1 : L.length + 1 ≤ n := by omega
                  obtain ⟨i3, hi3, hi3z, hi3s, hi3b⟩ := info_parts info_int'
                  go_upto_region 21 with fail
                  go_cut [] (fun wc => ∃ A10 k10, Hid (RS2 c tr w0 T gs wt.heap.size v j (.slice A10 (L.length + 1) k10) (L ++ [x.addr]) vc L.length Fb (fun _ => False) (stepC c (csAt c tr j) x).th wc))
                  case first =>
                    go_region_law (refine step_app _ (by rfl) _ _ 30 (by rfl) (wt.heap.size + 1) 3 i3 (.int .i64 0) 1 8 Try.underlying30 hi3 hi3z hi3s hi3b rfl (by decide) (.slice Aa L.length ka) L.length (ints L) (by rfl) ((HS5.out.bk.addrs.drew).alloc _) (W4.heap.size + 1) (some ⟨W4.heap.size, 0, none⟩) 1 1 [.int .i64 x.addr] (by rfl) (((Blk.new W4.drew 3 _).sl rfl).up (by simp)) ints_one1 (L.length + 1) rfl _ rfl _ rfl (by simp only [maxLen]; omega) (by omega) (by simp <;> omega) ?_
                                   intro A10 k10 W10 hown10 hg10 hat10 hk10 hk11
                                   have hB10 := (((HS5.out.bk.blk.drewB).alloc (.cells #[.int .i64 x.addr] 3))).grown hg10 (own_ne'' (HS5.out.bk.addrs) (by omega))
                                   have d0 := hB10.cell (i := 0) rfl
                                   have df := hB10.frozen 0)
                    all_goals (go_wp2_with fail; go_meet)
                    all_goals (
                      have hkk := (HS5.out.keep ((Below.refl _ W4).drew.alloc (Nat.le_refl _) (.cells #[.int .i64 x.addr] 3)))
                      have hzz : (W4.drew.alloc (.cells #[.int .i64 x.addr] 3)).heap.size = W4.heap.size + 1 := by simp
                      refine ⟨A10, k10, below_gb' hkk.bel hg10 (fun q hq => by have := (hkk.bk.addrs.lt q hq).1; omega) (by omega), ?_, hkk.bk.addr hg10 hown10 hat10 (Nat.le_refl _)⟩
                      exact (hkk.th.keep ((Below.refl _ _).grown hg10 (by omega) (fun q hq => by have := (hkk.bk.addrs.lt q hq).1; omega))).keep ((Below.refl _ _).setCell (p := ⟨wt.heap.size, 0, none⟩) (Nat.le_refl _) _))
                  case rest =>
                    obtain ⟨A10, k10, HR1⟩ := hcut
                    obtain ⟨W10, rfl⟩ : ∃ W10 : World, W10 = wc := ⟨_, rfl⟩
                    clear b0 y3 hd0 hgbl hgal hbs4
                    have hbl1 := (HR1.out.2.2.keep ((Below.refl _ W10).alloc (Nat.le_refl _) (.cells #[.slice none 0 0] 30)))
                    obtain ⟨xs, hxs, hfn⟩ := hbl1.clock
                    obtain ⟨Ac, kc0, hvc0, hkc01, hkc02⟩ := own_form hxs
                    subst hvc0
                    have d1 : W10.cell? ⟨wt.heap.size, 1, none⟩ = some (.slice Ac L.length kc0) := HR1.out.2.2.blk.cell rfl
                    have HXS := Lib.hid hxs
                    have HFN := Lib.hid hfn
                    have HBL1 := Lib.hid hbl1.blk
                    have hbs10 := HR1.out.2.2.size
                    have hb10 := HR1.out.1.size
                    clear hxs hfn hbl1
                    go_wp2_with (at_builtin; go_must (refine wpList_app _ rfl _ _ 51 rfl (wt.heap.size + 1) 30 i2 (.slice none 0 0) 1 24 Try.underlying51 hi2 hi2z hi2s hi2b rfl (by decide) (.slice Ac L.length kc0) L.length xs rfl HXS.out (W10.heap.size + 1) (some ⟨W10.heap.size, 0, none⟩) 1 1 [.slice none 0 0] rfl (((Blk.new W10 30 _).sl rfl).up (by simp)) hd_one' (L.length + 1) rfl _ rfl _ rfl (by simp only [maxLen]; omega) (by omega) (by rw [World.size_alloc]; omega) ?_; intro A11 k11 W11 hown11 hg11 hat11 hk11a hk11b; have hB11 := HBL1.out.grown hg11 (own_ne'' HXS.out (by omega)); have d1' := hB11.cell (i := 1) rfl; have df1 := hB11.frozen 1))
                    have hz11 := hg11.size
                    rw [World.size_alloc] at hz11
                    have HR2 : Hid (RS2 c tr w0 T gs wt.heap.size v j (.slice A10 (L.length + 1) k10) (L ++ [x.addr]) (.slice A11 (L.length + 1) k11) (L.length + 1) Fb (fun i => i = L.length) (stepC c (csAt c tr j) x).th (W11.setCell ⟨wt.heap.size, 1, none⟩ (.slice A11 (L.length + 1) k11))) := by
                      refine ⟨below_gb' (HR1.out.1.alloc hb10 _) hg11 (fun q hq => by have := (HXS.out.lt q hq).1; omega) (by omega), ?_, HFN.out _ _ W11 hg11 hown11 hat11 (Nat.le_refl _)⟩
                      exact (HR1.out.2.1.keep (((Below.refl _ W10).alloc (by omega) _).grown hg11 (by rw [World.size_alloc]; omega) (fun q hq => by have := (HXS.out.lt q hq).1; omega))).keep ((Below.refl _ _).setCell (p := ⟨wt.heap.size, 1, none⟩) (Nat.le_refl _) _)
                    clear d1 d1' df1 hB11
                    generalize W11.setCell ⟨wt.heap.size, 1, none⟩ (.slice A11 (L.length + 1) k11) = W12 at HR2 ⊢
                    clear hown11 hg11 hat11 HXS HFN HBL1
                    obtain ⟨xb, hxb, hlb⟩ := HR2.out.2.2.clk_own
                    obtain ⟨gc, kc, hvc, hgcl, hkc1, hkc2, hgcB, hgcf⟩ := own_pos hxb (by omega)
                    have HVC := Lib.hid hvc
                    have hgbl := HR2.out.2.2.blk.lt
                    have hbsz9 := HR2.out.2.2.size
                    have k1 : W12.cell? ⟨wt.heap.size, 1, none⟩ = some (.slice (some ⟨gc, 0, none⟩) (L.length + 1) kc) := by rw [← hvc]; exact HR2.out.2.2.blk.cell rfl
                    obtain ⟨uo, huo⟩ : ∃ u, W12.cell? ⟨gc, L.length, none⟩ = some u := by
                      obtain ⟨u, hu⟩ := at_lt (show L.length < xb.length by omega)
                      rw [hvc] at hxb
                      have h8 := hxb.cells (g := gc) rfl (L.length) u hu
                      rw [Addr.add_mid, Nat.zero_add] at h8
                      exact ⟨u, h8⟩
                    have hg6 := HR2.out.2.1.2.2.2.2.2 t g HG.out
                    rw [← stepC_th HT1.out rfl t, if_pos rfl] at hg6
                    have HG6 := Lib.hid hg6
                    have i0lt : ((L.length : Nat) : Int) < ((L.length + 1 : Nat) : Int) := by omega
                    have i0ge : (0 : Int) ≤ ((L.length : Nat) : Int) := by omega
                    have hcf0 := hgcf (L.length)
                    unfold maxLen at hkc2
                    clear hg6 hxb hlb hvc hgcf
                    go_upto_region 23 with fail
                    go_region_with ((go_at_call 65; refine (twin27_any (clkL T (mineC c (csAt c tr j) x)) (some ⟨g, 0, none⟩) T T _ ((HG6.out.drewB).sl (by rw [ints_len, clkL_len]; omega)) (by omega)).mono ?_; rintro e W8 ⟨A8, k8, rfl, hown8, hb8, hk8, hk9⟩; have hz8 := hb8.size; rw [World.size_drew] at hz8; have k1' : W8.cell? ⟨wt.heap.size, 1, none⟩ = some (.slice (some ⟨gc, 0, none⟩) (L.length + 1) kc) := (hb8.cell hgbl).trans k1; have huo' : W8.cell? ⟨gc, L.length, none⟩ = some uo := (hb8.cell hgcl).trans huo; have hcf' : W8.frozen? ⟨gc, L.length, none⟩ = false := (hb8.frozen hgcl).trans hcf0))
                    all_goals (go_wp2_with fail; go_meet)
                    all_goals (
                      have hbW : Below W12.heap.size W12 W8 := (Below.refl _ _).drew.trans hb8
                      have hput := (HR2.out.2.2.keep hbW).put (F1 := mineC c (csAt c tr j) x) (hole' := fun _ => False) HVC.out (show L.length < L.length + 1 by omega) (RowOk.new (W0 := W12) (fun r hr => (HR2.out.2.2.addrs.lt r hr).2) hown8 (by omega)) (fun i hi _ => hi)
                      refine ⟨(HR2.out.1.trans (hbW.mono HR2.out.1.size)).setCell (p := ⟨gc, L.length, none⟩) (by dsimp only; omega) _, (HR2.out.2.1.keep (hbW.mono (by omega))).keep ((Below.refl _ _).setCell (p := ⟨gc, L.length, none⟩) (by dsimp only; omega) _), .slice A10 (L.length + 1) k10, L ++ [x.addr], _, _, (by rw [List.length_append]; simp; omega), (by rw [List.length_append]; exact hput), fun a => ?_⟩
                      rw [stepC_wd HP.out HWr.out, bookF_new HA1.out, HWD.out])
              · have hA' : ofFrom x.addr 0 L = (i : Int) := by rw [hA]; congr 1; omega
                rw [hA']
                have hiL := (List.getElem?_eq_some_iff.1 hAi).1
                have hws : (csAt c tr j).wd x.addr = some (Fb i) := by rw [HWD.out]; unfold bookF; rw [hA', if_neg (by omega)]; rfl
                have HA1 := Lib.hid hA'
                have HWs := Lib.hid hws
                have a0 : (0 : Int) ≤ (i : Int) := by omega
                have a1 : decide ((i : Int) < 0) = false := by simp
                clear hA hA' hAi hws
                by_cases hkk : x.kind = 2
                · have hmn := mine_store (c := c) (s := csAt c tr j) HT1.out hkk
                  have HS4 := Lib.hid (HS3.out.fn (stepC_th HT1.out hmn))
                  have HWr := Lib.hid (show wroteB x = true by unfold wroteB; simp [hkk])
                  have b2 : (x.kind != 2) = false := by simp [hkk]
                  clear hmn HS3 hkk
                  have y0 : W3.cell? ⟨wr.heap.size, 0, none⟩ = some (.int .i64 x.move) := HS4.out.ac.cell rfl
                  have y1 : W3.cell? ⟨wr.heap.size, 1, none⟩ = some (.int .i64 x.thread) := HS4.out.ac.cell rfl
                  have y2 : W3.cell? ⟨wr.heap.size, 2, none⟩ = some (.int .i64 x.kind) := HS4.out.ac.cell rfl
                  have y3 : W3.cell? ⟨wr.heap.size, 3, none⟩ = some (.int .i64 x.addr) := HS4.out.ac.cell rfl
                  have y4 : W3.cell? ⟨wr.heap.size, 4, none⟩ = some (.int .u64 x.old) := HS4.out.ac.cell rfl
                  have y5 : W3.cell? ⟨wr.heap.size, 5, none⟩ = some (.int .u64 x.new) := HS4.out.ac.cell rfl
                  have y6 : W3.cell? ⟨wr.heap.size, 6, none⟩ = some (.int .u64 x.saw) := HS4.out.ac.cell rfl
                  go_wp2_with fail
                  refine (rwrote_any x _).mono ?_
                  rintro e W4 ⟨he, hb4⟩
                  rw [HWr.out] at he
                  subst he
                  have HS5 := Lib.hid (HS4.out.keep hb4)
                  have HR2 : Hid (RS2 c tr w0 T gs wt.heap.size v j (.slice Aa L.length ka) L vc L.length Fb (fun _ => False) (stepC c (csAt c tr j) x).th W4) := ⟨HS5.out.bel, HS5.out.th, HS5.out.bk⟩
                  clear y0 y1 y2 y3 y4 y5 y6 hb4 HS4
                  obtain ⟨xb, hxb, hlb⟩ := HR2.out.2.2.clk_own
                  obtain ⟨gc, kc, hvc, hgcl, hkc1, hkc2, hgcB, hgcf⟩ := own_pos hxb (by omega)
                  have HVC := Lib.hid hvc
                  have hgbl := HR2.out.2.2.blk.lt
                  have hbsz9 := HR2.out.2.2.size
                  have k1 : W4.cell? ⟨wt.heap.size, 1, none⟩ = some (.slice (some ⟨gc, 0, none⟩) (L.length) kc) := by rw [← hvc]; exact HR2.out.2.2.blk.cell rfl
                  obtain ⟨uo, huo⟩ : ∃ u, W4.cell? ⟨gc, i, none⟩ = some u := by
                    obtain ⟨u, hu⟩ := at_lt (show i < xb.length by omega)
                    rw [hvc] at hxb
                    have h8 := hxb.cells (g := gc) rfl (i) u hu
                    rw [Addr.add_mid, Nat.zero_add] at h8
                    exact ⟨u, h8⟩
                  have hg6 := HR2.out.2.1.2.2.2.2.2 t g HG.out
                  rw [← stepC_th HT1.out rfl t, if_pos rfl] at hg6
                  have HG6 := Lib.hid hg6
                  have i0lt : ((i : Nat) : Int) < ((L.length : Nat) : Int) := by omega
                  have i0ge : (0 : Int) ≤ ((i : Nat) : Int) := by omega
                  have hcf0 := hgcf (i)
                  unfold maxLen at hkc2
                  clear hg6 hxb hlb hvc hgcf
                  go_upto_region 23 with fail
                  go_region_with ((go_at_call 65; refine (twin27_any (clkL T (mineC c (csAt c tr j) x)) (some ⟨g, 0, none⟩) T T _ ((HG6.out.drewB).sl (by rw [ints_len, clkL_len]; omega)) (by omega)).mono ?_; rintro e W8 ⟨A8, k8, rfl, hown8, hb8, hk8, hk9⟩; have hz8 := hb8.size; rw [World.size_drew] at hz8; have k1' : W8.cell? ⟨wt.heap.size, 1, none⟩ = some (.slice (some ⟨gc, 0, none⟩) (L.length) kc) := (hb8.cell hgbl).trans k1; have huo' : W8.cell? ⟨gc, i, none⟩ = some uo := (hb8.cell hgcl).trans huo; have hcf' : W8.frozen? ⟨gc, i, none⟩ = false := (hb8.frozen hgcl).trans hcf0))
                  all_goals (go_wp2_with fail; go_meet)
                  all_goals (
                    have hbW : Below W4.heap.size W4 W8 := (Below.refl _ _).drew.trans hb8
                    have hput := (HR2.out.2.2.keep hbW).put (F1 := mineC c (csAt c tr j) x) (hole' := fun _ => False) HVC.out (show i < L.length by omega) (RowOk.new (W0 := W4) (fun r hr => (HR2.out.2.2.addrs.lt r hr).2) hown8 (by omega)) (fun _ _ h => h)
                    refine ⟨(HR2.out.1.trans (hbW.mono HR2.out.1.size)).setCell (p := ⟨gc, i, none⟩) (by dsimp only; omega) _, (HR2.out.2.1.keep (hbW.mono (by omega))).keep ((Below.refl _ _).setCell (p := ⟨gc, i, none⟩) (by dsimp only; omega) _), .slice Aa L.length ka, L, _, _, Nat.le_succ_of_le hLj, hput, fun a => ?_⟩
                    rw [stepC_wd HP.out HWr.out, bookF_put HA1.out, HWD.out])
                · have b2 : (x.kind != 2) = true := by simp [hkk]
                  have hmn := mine_some (c := c) HT1.out HP.out hkk HWs.out
                  obtain ⟨hbs, hos, r1, r2, r3, r4, r5, r6, r7⟩ := HS3.out.bk.ex
                  obtain ⟨⟨A1, n1, k1⟩, hh1⟩ := at_lt (show i < hbs.length by omega)
                  obtain ⟨rk1, rk2, rk3⟩ := r5 i _ hh1 (fun h => h)
                  dsimp only at rk1
                  subst rk1
                  obtain ⟨gc0, kc0, hvc0, hgc0, _, hkc02, _, _⟩ := own_pos r1 (by omega)
                  subst hvc0
                  unfold maxLen at hkc02
                  have hk2 : W3.cell? ⟨wt.heap.size, 1, none⟩ = some (.slice (some ⟨gc0, 0, none⟩) L.length kc0) := HS3.out.bk.blk.cell rfl
                  have hk3 : W3.cell? ⟨gc0, i, none⟩ = some (.slice A1 n1 k1) := by
                    have h8 := r1.cells (g := gc0) rfl i (.slice A1 n1 k1) (by rw [List.getElem?_map, hh1]; rfl)
                    rwa [Addr.add_mid, Nat.zero_add] at h8
                  have i1lt : (i : Int) < (L.length : Int) := by omega
                  have hgB3 := HS3.out.th.2.2.2.2.2 t g HG.out
                  dsimp only at hgB3
                  rw [if_pos rfl] at hgB3
                  have HGB3 := Lib.hid hgB3
                  have HRow := Lib.hid rk2
                  have y2 : W3.cell? ⟨wr.heap.size, 2, none⟩ = some (.int .i64 x.kind) := HS3.out.ac.cell rfl
                  have HMn := Lib.hid hmn
                  have HKK := Lib.hid hkk
                  clear hgB3 r1 r2 r3 r4 r5 r6 r7 rk2 rk3 hh1 hmn hkk
                  go_wp2_with fail
                  refine (rraise_any g (bump ((csAt c tr j).th t) t) (Fb i) A1 n1 k1 _ HGB3.out (Sl.of_own HRow.out) (fun b' o' he => by subst he; have := (HRow.out.lt b' rfl).1; omega) (by simp only [maxLen]; omega)).mono ?_
                  rintro e W4 ⟨rfl, hg4, hB4⟩
                  have HS4 : Hid (RSt c tr w0 n1 gs wt.heap.size v j (.slice Aa L.length ka) L (.slice (some ⟨gc0, 0, none⟩) L.length kc0) Fb (stepC c (csAt c tr j) x).th wr.heap.size x W4) := by
                    refine (HS3.out.thr HG.out hg4 hB4 hga).fn (fun q => ?_)
                    rw [← stepC_th HT1.out HMn.out q]
                    by_cases hq : q = t
                    · rw [if_pos hq, if_pos hq]
                    · rw [if_neg hq, if_neg hq, if_neg hq]
                  clear hk2 hk3 y2 hg4 hB4 HS3 b2
                  have y0 : W4.cell? ⟨wr.heap.size, 0, none⟩ = some (.int .i64 x.move) := HS4.out.ac.cell rfl
                  have y1 : W4.cell? ⟨wr.heap.size, 1, none⟩ = some (.int .i64 x.thread) := HS4.out.ac.cell rfl
                  have y2 : W4.cell? ⟨wr.heap.size, 2, none⟩ = some (.int .i64 x.kind) := HS4.out.ac.cell rfl
                  have y3 : W4.cell? ⟨wr.heap.size, 3, none⟩ = some (.int .i64 x.addr) := HS4.out.ac.cell rfl
                  have y4 : W4.cell? ⟨wr.heap.size, 4, none⟩ = some (.int .u64 x.old) := HS4.out.ac.cell rfl
                  have y5 : W4.cell? ⟨wr.heap.size, 5, none⟩ = some (.int .u64 x.new) := HS4.out.ac.cell rfl
                  have y6 : W4.cell? ⟨wr.heap.size, 6, none⟩ = some (.int .u64 x.saw) := HS4.out.ac.cell rfl
                  go_wp2_with fail
                  refine (rwrote_any x _).mono ?_
                  rintro e W5 ⟨rfl, hb5⟩
                  have HS5 := Lib.hid (HS4.out.keep hb5)
                  clear y0 y1 y2 y3 y4 y5 y6 hb5 HS4
                  cases hwr : wroteB x with
                  | false =>
                    have HWr := Lib.hid hwr
                    clear hwr
                    go_wp2_with fail
                    go_meet
                    exact ⟨HS5.out.bel, HS5.out.th, _, L, _, Fb, Nat.le_succ_of_le hLj, HS5.out.bk, fun a => by rw [stepC_wd' (same_no HWr.out)]; exact HWD.out a⟩
                  | true =>
                    have HWr := Lib.hid hwr
                    clear hwr
                    have HR2 : Hid (RS2 c tr w0 n1 gs wt.heap.size v j (.slice Aa L.length ka) L (.slice (some ⟨gc0, 0, none⟩) L.length kc0) L.length Fb (fun _ => False) (stepC c (csAt c tr j) x).th W5) := ⟨HS5.out.bel, HS5.out.th, HS5.out.bk⟩
                    obtain ⟨xb, hxb, hlb⟩ := HR2.out.2.2.clk_own
                    obtain ⟨gc, kc, hvc, hgcl, hkc1, hkc2, hgcB, hgcf⟩ := own_pos hxb (by omega)
                    have HVC := Lib.hid hvc
                    have hgbl := HR2.out.2.2.blk.lt
                    have hbsz9 := HR2.out.2.2.size
                    have k1 : W5.cell? ⟨wt.heap.size, 1, none⟩ = some (.slice (some ⟨gc, 0, none⟩) (L.length) kc) := by rw [← hvc]; exact HR2.out.2.2.blk.cell rfl
                    obtain ⟨uo, huo⟩ : ∃ u, W5.cell? ⟨gc, i, none⟩ = some u := by
                      obtain ⟨u, hu⟩ := at_lt (show i < xb.length by omega)
                      rw [hvc] at hxb
                      have h8 := hxb.cells (g := gc) rfl (i) u hu
                      rw [Addr.add_mid, Nat.zero_add] at h8
                      exact ⟨u, h8⟩
                    have hg6 := HR2.out.2.1.2.2.2.2.2 t g HG.out
                    rw [← stepC_th HT1.out rfl t, if_pos rfl] at hg6
                    have HG6 := Lib.hid hg6
                    have i0lt : ((i : Nat) : Int) < ((L.length : Nat) : Int) := by omega
                    have i0ge : (0 : Int) ≤ ((i : Nat) : Int) := by omega
                    have hcf0 := hgcf (i)
                    unfold maxLen at hkc2
                    clear hg6 hxb hlb hvc hgcf
                    go_upto_region 23 with fail
                    go_region_with ((go_at_call 65; refine (twin27_any (clkL n1 (mineC c (csAt c tr j) x)) (some ⟨g, 0, none⟩) n1 n1 _ ((HG6.out.drewB).sl (by rw [ints_len, clkL_len]; omega)) (by omega)).mono ?_; rintro e W8 ⟨A8, k8, rfl, hown8, hb8, hk8, hk9⟩; have hz8 := hb8.size; rw [World.size_drew] at hz8; have k1' : W8.cell? ⟨wt.heap.size, 1, none⟩ = some (.slice (some ⟨gc, 0, none⟩) (L.length) kc) := (hb8.cell hgbl).trans k1; have huo' : W8.cell? ⟨gc, i, none⟩ = some uo := (hb8.cell hgcl).trans huo; have hcf' : W8.frozen? ⟨gc, i, none⟩ = false := (hb8.frozen hgcl).trans hcf0))
                    all_goals (go_wp2_with fail; go_meet)
                    all_goals (
                      have hbW : Below W5.heap.size W5 W8 := (Below.refl _ _).drew.trans hb8
                      have hput := (HR2.out.2.2.keep hbW).put (F1 := mineC c (csAt c tr j) x) (hole' := fun _ => False) HVC.out (show i < L.length by omega) (RowOk.new (W0 := W5) (fun r hr => (HR2.out.2.2.addrs.lt r hr).2) hown8 (by omega)) (fun _ _ h => h)
                      refine ⟨(HR2.out.1.trans (hbW.mono HR2.out.1.size)).setCell (p := ⟨gc, i, none⟩) (by dsimp only; omega) _, (HR2.out.2.1.keep (hbW.mono (by omega))).keep ((Below.refl _ _).setCell (p := ⟨gc, i, none⟩) (by dsimp only; omega) _), .slice Aa L.length ka, L, _, _, Nat.le_succ_of_le hLj, hput, fun a => ?_⟩
                      rw [stepC_wd HP.out HWr.out, bookF_put HA1.out, HWD.out])
          case rest =>
            have HI6 := hcut
            clear hcut
            obtain ⟨W6, rfl⟩ : ∃ W6 : World, W6 = wc := ⟨_, rfl⟩
            obtain ⟨hb6, hT6, va6, L6, vc6, Fb6, hL6, hB6, hW6⟩ := HI6.out
            have hg6 := hT6.2.2.2.2.2 t g HG.out
            rw [← stepC_th HT1.out rfl t, if_pos rfl, ← outC_at HX.out] at hg6
            have HT6 := Lib.hid hT6
            have HB6 := Lib.hid hB6
            have HW6 := Lib.hid hW6
            have HG6 := Lib.hid hg6
            have hz6 := hB6.size
            clear hT6 hB6 hW6 hg6
            go_wp2_with fail
            refine (twin27_any (clkL T (outC c tr j)) (some ⟨g, 0, none⟩) T T _ (HG6.out.sl (by rw [ints_len, clkL_len]; omega)) (by omega)).mono ?_
            rintro e W7 ⟨A7, k7, rfl, hown7, hb7, hk7, hk8⟩
            have hz7 := hb7.size
            have HB7 := Lib.hid (HB6.out.keep hb7)
            have HO7 := Lib.hid hown7
            have hba := hb6.trans (hb7.mono hb6.size)
            have HB8 := Lib.hid (HB7.out.keep ((Below.refl _ W7).alloc (Nat.le_refl _) (.cells #[.slice A7 T k7] 30)))
            obtain ⟨xs, hx8, hf8⟩ := HB8.out.outs
            have HX8 := Lib.hid hx8
            have HF8 := Lib.hid hf8
            have hsz6 := hb6.size
            clear hown7 hx8 hf8
            go_wp2_with (at_builtin; go_must (refine wpList_app _ rfl _ _ 51 rfl (wt.heap.size + 1) 30 i2 (.slice none 0 0) 1 24 Try.underlying51 hi2 hi2z hi2s hi2b rfl (by decide) v j xs rfl HX8.out (W7.heap.size + 1) (some ⟨W7.heap.size, 0, none⟩) 1 1 [.slice A7 T k7] rfl (((Blk.new W7 30 _).sl rfl).up (by simp)) hd_one' (j + 1) rfl _ rfl _ rfl (by simp only [maxLen]; omega) (by omega) (by rw [World.size_alloc]; omega) ?_; intro A9 k9 W9 hown9 hg9 hat9 hk9 hk10))
            go_roundg (gk - 1)
            case measure => omega
            case rel =>
              refine ⟨j + 1, .slice A9 (j + 1) k9, by omega, by go_num, rfl, ?_, ?_, va6, L6, vc6, Fb6, hL6, ?_, ?_⟩
              · exact (hba.alloc (by omega) _).grown hg9 (by rw [World.size_alloc]; omega) (fun q hq => by have := (HX8.out.lt q hq).1; omega)
              · rw [csAt_next HX.out]
                exact (HT6.out.keep (hb7.mono (by omega))).keep (((Below.refl _ W7).alloc (by omega) _).grown hg9 (by rw [World.size_alloc]; omega) (fun q hq => by have := (HX8.out.lt q hq).1; omega))
              · refine HF8.out A7 k7 (W7.alloc (.cells #[.slice A7 T k7] 30)).heap.size _ W9 ?_ hg9 hown9 hat9 (Nat.le_refl _)
                refine RowOk.new (W0 := W6) (fun r hr => (HB6.out.addrs.lt r hr).2) (HO7.out.alloc _) (by omega)
              · rw [csAt_next HX.out]
                exact HW6.out
        · obtain rfl : n = j := by omega
          obtain ⟨_, _, va9, L9, vc9, Fb9, _, hB9, _⟩ := HI.out
          obtain ⟨hbs, hos, a1, a2, a3, a4, a5, a6, a7⟩ := hB9.ex
          obtain ⟨A5, k5, rfl, h5, h6⟩ := own_form a3
          have HR9 : Hid (Rows wr (wt.heap.size + 1) T (.slice A5 n k5) n (outC c tr)) := ⟨hos, a3, a4, fun i y hy => ⟨(a6 i y hy).1, (a6 i y hy).2.1⟩⟩
          clear hB9 a1 a2 a3 a4 a5 a6 a7
          go_wp2_with fail
          go_ret
          exact ⟨A5, k5, wt.heap.size + 1, rfl, hb0.trans (hbx.mono (by have := HZ0.out; omega)), by rw [HTn.out]; exact HR9.out, h5, h6⟩
end Go.Proofs.Ytgbopmgeicokoaa
