/-
  machine.Desk: Now, Point, Load, Store, Swap, Answer.
-/
import Derived.Test.YtjnmlgfkiebkgaaLdk
import Derived.Test.YtjnmlgfkiebkgaaTk
namespace Go.Proofs.Ytjnmlgfkiebkgaa
open Go.RowKit
set_option linter.unusedVariables false
set_option linter.unusedSimpArgs false

section
variable {W : World} {B db : Nat} {L : DL} {vl va : Value} {d : Dk}
set_option maxRecDepth 100000 in
theorem now_any (h : DM W B L vl va d) (hd : Dsk W db L) : Calls Try.prog 96 #[.pointer (some ⟨db, 0, none⟩)] W fun e w' => e = .returned (.int .i64 d.now) ∧ w' = W := by
  have x2 : W.cell? ⟨L.x, 2, none⟩ = some (.int .i64 d.now) := h.xb.cell rfl
  have d0 : W.cell? ⟨db, 0, none⟩ = some (.pointer (some ⟨L.x, 0, none⟩)) := hd.cell rfl
  clear h hd
  go_enter Try.func96, Try.ntmps96
  go_wp2_with fail
  go_ret
  exact ⟨rfl, rfl⟩
set_option maxRecDepth 100000 in
set_option maxHeartbeats 4000000 in
theorem point_any (h : DM W B L vl va d) (hd : Dsk W db L) (z : Int) : Calls Try.prog 95 #[.pointer (some ⟨db, 0, none⟩), .int .i64 z] W (DR B L W (.tuple #[]) { d with pt := z }) := by
  have x3 : W.cell? ⟨L.x, 3, none⟩ = some (.pointer (some ⟨L.cg, L.co, none⟩)) := h.xb.cell rfl
  have d0 : W.cell? ⟨db, 0, none⟩ = some (.pointer (some ⟨L.x, 0, none⟩)) := hd.cell rfl
  have co := h.co
  have c6 : W.cell? ⟨L.cg, L.co + 6, none⟩ = some (.int .i64 d.pt) := h.cl.cell (by rw [List.getElem?_set_self co])
  have f6 := h.cl.frozen (L.co + 6)
  have HD := Lib.hid h
  clear h hd co
  go_enter Try.func95, Try.ntmps95
  go_wp2_with fail
  go_end0
  exact ⟨rfl, ⟨_, _, HD.out.point z⟩, (Fr.refl _ _ _).setCell HD.out.bc (Or.inr (HD.out.cl.mine rfl)) _⟩
set_option maxRecDepth 100000 in
set_option maxHeartbeats 4000000 in
theorem ptnow_any (h : DM W B L vl va d) (hd : Dsk W db L) : Calls Try.prog 113 #[.pointer (some ⟨db, 0, none⟩)] W (DR B L W (.tuple #[]) d.point) := by
  have HD := Lib.hid h
  have HK := Lib.hid hd
  clear h hd
  go_enter Try.func113, Try.ntmps113
  go_wp2_with fail
  refine (now_any HD.out HK.out).mono ?_
  rintro e w1 ⟨rfl, rfl⟩
  go_wp2_with fail
  refine (point_any HD.out HK.out d.now).mono ?_
  rintro e w1 ⟨rfl, h1, h2⟩
  go_wp2_with fail
  go_end0
  exact ⟨rfl, h1, h2⟩
set_option maxRecDepth 100000 in
set_option maxHeartbeats 4000000 in
theorem answer_any (h : DM W B L vl va d) (hd : Dsk W db L) (k v : Int) : Calls Try.prog 106 #[.pointer (some ⟨db, 0, none⟩), .agg #[.int .i64 k, .int .i64 v]] W (DR B L W (.tuple #[]) (d.answer k v)) := by
  have x4 : W.cell? ⟨L.x, 4, none⟩ = some (.pointer (some ⟨L.sg, L.so, none⟩)) := h.xb.cell rfl
  have d0 : W.cell? ⟨db, 0, none⟩ = some (.pointer (some ⟨L.x, 0, none⟩)) := hd.cell rfl
  have so := h.so
  have s0 : W.cell? ⟨L.sg, L.so, none⟩ = some (.int .i64 d.ak) := h.se.cell (by rw [List.getElem?_set_ne (by omega), List.getElem?_set_self (by omega)])
  have s1 : W.cell? ⟨L.sg, L.so + 1, none⟩ = some (.int .i64 d.av) := h.se.cell (by rw [List.getElem?_set_self (by simp; omega)])
  have f0 := h.se.frozen L.so
  have f1 := h.se.frozen (L.so + 1)
  have l1 := h.xb.lt
  have l2 := hd.lt
  have l3 := h.se.lt
  have hsz := h.size
  have HD := Lib.hid h
  clear h hd
  go_enter Try.func106, Try.ntmps106
  go_upto_region 2 with fail
  go_region
  go_end0
  have hb : Below ((W.setCell ⟨L.sg, L.so, none⟩ (.int .i64 k)).setCell ⟨L.sg, L.so + 1, none⟩ (.int .i64 v)).heap.size ((W.setCell ⟨L.sg, L.so, none⟩ (.int .i64 k)).setCell ⟨L.sg, L.so + 1, none⟩ (.int .i64 v)) (((W.setCell ⟨L.sg, L.so, none⟩ (.int .i64 k)).setCell ⟨L.sg, L.so + 1, none⟩ (.int .i64 v)).alloc (.cells #[.int .i64 k, .int .i64 v] 60)).drew := ((Below.refl _ _).alloc (Nat.le_refl _) _).drew
  exact ⟨rfl, ⟨_, _, (HD.out.ans k v).on hb⟩, (((Fr.refl _ _ _).setCell HD.out.bs (Or.inr (HD.out.se.mine rfl)) _).setCell HD.out.bs (Or.inr ((HD.out.se.set_ L.so (.int .i64 k)).mine rfl)) _).below hb (by simpa using hsz)⟩

set_option maxRecDepth 100000 in
set_option maxHeartbeats 4000000 in
theorem dload_any (h : DM W B L vl va d) (hd : Dsk W db L) (hn : d.log.length ≤ 100000) (a : Int) : Calls Try.prog 93 #[.pointer (some ⟨db, 0, none⟩), .int .i64 a] W (DR B L W (.int .u64 (d.load a).1) (d.load a).2) := by
  have HD := Lib.hid h
  have HK := Lib.hid hd
  clear h hd
  cases ho : d.opn a with
  | false =>
    have e1 : d.load a = (0, d) := by unfold Dk.load; rw [ho]; rfl
    rw [e1]
    have HO := Lib.hid ho
    clear ho e1
    go_enter Try.func93, Try.ntmps93
    go_wp2_with fail
    refine (open_no HD.out HK.out a HO.out).mono ?_
    rintro e w1 ⟨rfl, rfl⟩
    go_wp2_with fail
    go_ret
    exact ⟨rfl, ⟨_, _, HD.out⟩, Fr.refl _ _ _⟩
  | true =>
    have e1 : d.load a = (d.word a, { d with used := true, log := d.log ++ [⟨d.now, d.th, 1, a, 0, 0, d.word a⟩] }) := by unfold Dk.load; rw [ho]; rfl
    rw [e1]
    have HO := Lib.hid ho
    clear ho e1
    go_enter Try.func93, Try.ntmps93
    go_wp2_with fail
    refine (open_yes HD.out HK.out a HO.out).mono ?_
    rintro e w1 ⟨rfl, ⟨vl1, va1, hd1⟩, hf1⟩
    have hk1 : Dsk w1 db L := hf1.blk HK.out rfl (by simp)
    have x0 : w1.cell? ⟨L.x, 0, none⟩ = some (.pointer (some ⟨L.y, 0, none⟩)) := hd1.xb.cell rfl
    have x1 : w1.cell? ⟨L.x, 1, none⟩ = some (.int .i64 d.th) := hd1.xb.cell rfl
    have d0 : w1.cell? ⟨db, 0, none⟩ = some (.pointer (some ⟨L.x, 0, none⟩)) := hk1.cell rfl
    have HD1 := Lib.hid (hd1.on (Below.refl _ w1).drew)
    have HF1 := Lib.hid hf1.drew
    have HK1 : Hid (Dsk w1.drew db L) := hk1
    clear hd1 hf1 hk1
    go_upto_region 3 with fail
    refine wp_region_held_drew (S := fun W => W.cell? ⟨db, 0, none⟩ = some (.pointer (some ⟨L.x, 0, none⟩)) ∧ W.cell? ⟨L.x, 0, none⟩ = some (.pointer (some ⟨L.y, 0, none⟩)) ∧ W.cell? ⟨L.x, 1, none⟩ = some (.int .i64 d.th)) (by kernel_rfl) ⟨d0, x0, x1⟩ (fun hS => ?_)
    iterate 15 (refine tkF 0 (v := ?_) ?_ ?_; rotate_left; · (intro W hSw; (try dsimp only at hSw); go_simp; try with_reducible rfl); try simp only [Act.put, List.setIfInBounds_toArray, List.set_cons_zero, List.set_cons_succ])
    refine rd 15 fun K1 hK1 => ?_
    go_simp
    go_at_call 98
    refine (memload_any HD1.out hn a (opn_true HO.out).2.1 (opn_true HO.out).2.2).mono ?_
    rintro e w3 ⟨rfl, ⟨vl3, va3, hd3⟩, hf3⟩
    have hk3 : Dsk w3 db L := hf3.blk HK1.out rfl (by simp)
    refine hK1.out _ _ ⟨hk3.cell rfl, hd3.xb.cell rfl, hd3.xb.cell rfl⟩ (fun _ => ?_)
    have HD3 := Lib.hid hd3
    have HF3 := Lib.hid (HF1.out.trans hf3)
    clear hd3 hf3 hk3
    iterate 5 (refine tkF 0 (v := ?_) ?_ ?_; rotate_left; · (intro W hSw; (try dsimp only at hSw); go_simp; try with_reducible rfl); try simp only [Act.put, List.setIfInBounds_toArray, List.set_cons_zero, List.set_cons_succ])
    refine wpAnyH_done (by kernel_rfl) ?_ _
    go_wp2_with fail
    go_ret
    exact ⟨rfl, ⟨_, _, HD3.out⟩, HF3.out⟩

set_option maxRecDepth 100000 in
set_option maxHeartbeats 4000000 in
theorem dstore_any (h : DM W B L vl va d) (hd : Dsk W db L) (hn : d.log.length ≤ 100000) (a x : Int) : Calls Try.prog 105 #[.pointer (some ⟨db, 0, none⟩), .int .i64 a, .int .u64 x] W (DR B L W (.tuple #[]) (d.store a x)) := by
  have HD := Lib.hid h
  have HK := Lib.hid hd
  clear h hd
  cases ho : d.opn a with
  | false =>
    have e1 : d.store a x = d := by unfold Dk.store; rw [ho]; rfl
    rw [e1]
    have HO := Lib.hid ho
    clear ho e1
    go_enter Try.func105, Try.ntmps105
    go_wp2_with fail
    refine (open_no HD.out HK.out a HO.out).mono ?_
    rintro e w1 ⟨rfl, rfl⟩
    go_wp2_with fail
    go_end0
    exact ⟨rfl, ⟨_, _, HD.out⟩, Fr.refl _ _ _⟩
  | true =>
    have e1 : d.store a x = { d with used := true, log := d.log ++ [⟨d.now, d.th, 2, a, 0, x, 0⟩], words := d.words.set a.toNat x } := by unfold Dk.store; rw [ho]; rfl
    rw [e1]
    have HO := Lib.hid ho
    clear ho e1
    go_enter Try.func105, Try.ntmps105
    go_wp2_with fail
    refine (open_yes HD.out HK.out a HO.out).mono ?_
    rintro e w1 ⟨rfl, ⟨vl1, va1, hd1⟩, hf1⟩
    have hk1 : Dsk w1 db L := hf1.blk HK.out rfl (by simp)
    have x0 : w1.cell? ⟨L.x, 0, none⟩ = some (.pointer (some ⟨L.y, 0, none⟩)) := hd1.xb.cell rfl
    have x1 : w1.cell? ⟨L.x, 1, none⟩ = some (.int .i64 d.th) := hd1.xb.cell rfl
    have d0 : w1.cell? ⟨db, 0, none⟩ = some (.pointer (some ⟨L.x, 0, none⟩)) := hk1.cell rfl
    have HD1 := Lib.hid (hd1.on (Below.refl _ w1).drew)
    have HF1 := Lib.hid hf1.drew
    have HK1 : Hid (Dsk w1.drew db L) := hk1
    clear hd1 hf1 hk1
    go_upto_region 1 with fail
    refine wp_region_held_drew (S := fun W => W.cell? ⟨db, 0, none⟩ = some (.pointer (some ⟨L.x, 0, none⟩)) ∧ W.cell? ⟨L.x, 0, none⟩ = some (.pointer (some ⟨L.y, 0, none⟩)) ∧ W.cell? ⟨L.x, 1, none⟩ = some (.int .i64 d.th)) (by kernel_rfl) ⟨d0, x0, x1⟩ (fun hS => ?_)
    iterate 16 (refine tkF 0 (v := ?_) ?_ ?_; rotate_left; · (intro W hSw; (try dsimp only at hSw); go_simp; try with_reducible rfl); try simp only [Act.put, List.setIfInBounds_toArray, List.set_cons_zero, List.set_cons_succ])
    refine rd 16 fun K1 hK1 => ?_
    go_simp
    go_at_call 107
    refine (memstore_any HD1.out hn a x (opn_true HO.out).2.1 (opn_true HO.out).2.2).mono ?_
    rintro e w3 ⟨rfl, ⟨vl3, va3, hd3⟩, hf3⟩
    have hk3 : Dsk w3 db L := hf3.blk HK1.out rfl (by simp)
    refine hK1.out _ _ ⟨hk3.cell rfl, hd3.xb.cell rfl, hd3.xb.cell rfl⟩ (fun _ => ?_)
    have HD3 := Lib.hid hd3
    have HF3 := Lib.hid (HF1.out.trans hf3)
    clear hd3 hf3 hk3
    skip
    refine wpAnyH_done (by kernel_rfl) ?_ _
    go_wp2_with fail
    go_end0
    exact ⟨rfl, ⟨_, _, HD3.out⟩, HF3.out⟩

set_option maxRecDepth 100000 in
set_option maxHeartbeats 4000000 in
theorem dswap_any (h : DM W B L vl va d) (hd : Dsk W db L) (hn : d.log.length ≤ 100000) (a x y : Int) : Calls Try.prog 94 #[.pointer (some ⟨db, 0, none⟩), .int .i64 a, .int .u64 x, .int .u64 y] W (DR B L W (.bool (d.swap a x y).1) (d.swap a x y).2) := by
  have HD := Lib.hid h
  have HK := Lib.hid hd
  clear h hd
  cases ho : d.opn a with
  | false =>
    have e1 : d.swap a x y = (false, d) := by unfold Dk.swap; rw [ho]; rfl
    rw [e1]
    have HO := Lib.hid ho
    clear ho e1
    go_enter Try.func94, Try.ntmps94
    go_wp2_with fail
    refine (open_no HD.out HK.out a HO.out).mono ?_
    rintro e w1 ⟨rfl, rfl⟩
    go_wp2_with fail
    go_ret
    exact ⟨rfl, ⟨_, _, HD.out⟩, Fr.refl _ _ _⟩
  | true =>
    have e1 : d.swap a x y = (d.word a == x, { d with used := true, log := d.log ++ [⟨d.now, d.th, 3, a, x, y, d.word a⟩], words := bif d.word a == x then d.words.set a.toNat y else d.words }) := by unfold Dk.swap; rw [ho]; cases d.word a == x <;> rfl
    rw [e1]
    have HO := Lib.hid ho
    clear ho e1
    go_enter Try.func94, Try.ntmps94
    go_wp2_with fail
    refine (open_yes HD.out HK.out a HO.out).mono ?_
    rintro e w1 ⟨rfl, ⟨vl1, va1, hd1⟩, hf1⟩
    have hk1 : Dsk w1 db L := hf1.blk HK.out rfl (by simp)
    have x0 : w1.cell? ⟨L.x, 0, none⟩ = some (.pointer (some ⟨L.y, 0, none⟩)) := hd1.xb.cell rfl
    have x1 : w1.cell? ⟨L.x, 1, none⟩ = some (.int .i64 d.th) := hd1.xb.cell rfl
    have d0 : w1.cell? ⟨db, 0, none⟩ = some (.pointer (some ⟨L.x, 0, none⟩)) := hk1.cell rfl
    have HD1 := Lib.hid (hd1.on (Below.refl _ w1).drew)
    have HF1 := Lib.hid hf1.drew
    have HK1 : Hid (Dsk w1.drew db L) := hk1
    clear hd1 hf1 hk1
    go_upto_region 3 with fail
    refine wp_region_held_drew (S := fun W => W.cell? ⟨db, 0, none⟩ = some (.pointer (some ⟨L.x, 0, none⟩)) ∧ W.cell? ⟨L.x, 0, none⟩ = some (.pointer (some ⟨L.y, 0, none⟩)) ∧ W.cell? ⟨L.x, 1, none⟩ = some (.int .i64 d.th)) (by kernel_rfl) ⟨d0, x0, x1⟩ (fun hS => ?_)
    iterate 17 (refine tkF 0 (v := ?_) ?_ ?_; rotate_left; · (intro W hSw; (try dsimp only at hSw); go_simp; try with_reducible rfl); try simp only [Act.put, List.setIfInBounds_toArray, List.set_cons_zero, List.set_cons_succ])
    refine rd 17 fun K1 hK1 => ?_
    go_simp
    go_at_call 99
    refine (memswap_any HD1.out hn a x y (opn_true HO.out).2.1 (opn_true HO.out).2.2).mono ?_
    rintro e w3 ⟨rfl, ⟨vl3, va3, hd3⟩, hf3⟩
    have hk3 : Dsk w3 db L := hf3.blk HK1.out rfl (by simp)
    refine hK1.out _ _ ⟨hk3.cell rfl, hd3.xb.cell rfl, hd3.xb.cell rfl⟩ (fun _ => ?_)
    have HD3 := Lib.hid hd3
    have HF3 := Lib.hid (HF1.out.trans hf3)
    clear hd3 hf3 hk3
    iterate 7 (refine tkF 0 (v := ?_) ?_ ?_; rotate_left; · (intro W hSw; (try dsimp only at hSw); go_simp; try with_reducible rfl); try simp only [Act.put, List.setIfInBounds_toArray, List.set_cons_zero, List.set_cons_succ])
    refine wpAnyH_done (by kernel_rfl) ?_ _
    go_wp2_with fail
    go_ret
    exact ⟨rfl, ⟨_, _, HD3.out⟩, HF3.out⟩
end
end Go.Proofs.Ytjnmlgfkiebkgaa
