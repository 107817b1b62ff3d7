/-
  append onto a row of the call's own, whatever the source (nil, empty or not).
-/
import Derived.Test.YtjnmlgfkiebkgaaMem
import Derived.Maps.AppendAt
import Derived.RegionTactic
namespace Go.Proofs.Ytjnmlgfkiebkgaa
open Go.RowKit
set_option linter.unusedVariables false
set_option linter.unusedSimpArgs false

theorem run_app {P : Program} (w : World) (base : Nat) (t ty e : TypeId) (i : TypeInfo) (z : Value) (size bytes : Nat) (ht : P.underlying t = some (.slice e)) (hi : P.info? e = some i) (hz : i.zero = some z)
    (hsize : i.size = size) (hby : i.bytes = bytes) (hzs : z.cells.size = size) (hsz : 0 < size)
    (v : Value) (n : Nat) (xs : List Value) (hown : w.ownsRow base e size v n xs)
    (B : Nat) (A : Option Addr) (m c : Nat) (news : List Value) (hs : Sl w B size A m news) (h1 : ∀ u ∈ news, u.oneCell' = true)
    (h63 : n + m ≤ maxLen) (hbytes : (n + m) * bytes ≤ 140737488355328) (hbase : base ≤ w.heap.size) :
    ∃ v' w', (Builtin.append_ #[t, t] ty #[v, .slice A m c]).run P w = .ok v' w' ∧ w'.ownsRow base e size v' (n + m) (xs ++ news) ∧ w.grownBy w' v.ownBlock ∧
      (v'.ownBlock = v.ownBlock ∨ v'.ownBlock = some w.heap.size) := by
  cases A with
  | none =>
    have hm : m = 0 := by
      rcases Nat.eq_zero_or_pos m with h | h
      · exact h
      · obtain ⟨b, o, ha, _⟩ := hs.2 h
        cases ha
    subst hm
    have hnil : news = [] := List.eq_nil_of_length_eq_zero (by simpa using hs.1)
    subst hnil
    refine ⟨v, w, ?_, by simpa using hown, World.grownBy.refl w _, Or.inl rfl⟩
    rcases hown.2 with ⟨rfl, rfl⟩ | ⟨g, cap, cur, rfl, _, _, hnc, _⟩
    · simp [Builtin.append_, run_underlying ht, sizeOf, typeInfo, hi, Builtin.lenOf, Builtin.firstCells]
    · simp [Builtin.append_, run_underlying ht, sizeOf, typeInfo, hi, Builtin.lenOf, Builtin.firstCells, hnc, storeCells]
  | some ad =>
    have hnews : ∀ j u, news[j]? = some u → w.cell? (ad.add j) = some u := by
      intro j u hu
      rcases Nat.eq_zero_or_pos m with h | h
      · subst h
        have hnil : news = [] := List.eq_nil_of_length_eq_zero (by simpa using hs.1)
        subst hnil
        simp at hu
      · obtain ⟨b, o, ha, _, hc⟩ := hs.2 h
        injection ha with ha
        subst ha
        have := hc j u hu
        unfold Addr.add
        split
        · rename_i hj; subst hj; exact this
        · exact this
    obtain ⟨v', w', hr, h2, h3, _, h5⟩ := run_append_own_at (P := P) w base t ty e i z size bytes ht hi hz hsize hby hzs hsz v n xs hown ad m c news hs.1 hnews h1 h63 hbytes hbase
    exact ⟨v', w', hr, h2, h3, h5⟩

/-- a row's value, by its slice -/
theorem own_form {w : World} {base : Nat} {e : TypeId} {size n : Nat} {v : Value} {xs : List Value} (h : w.ownsRow base e size v n xs) : ∃ A k, v = .slice A n k ∧ n ≤ k ∧ k ≤ maxLen := by
  rcases h.2 with ⟨rfl, rfl⟩ | ⟨g, cap, cur, rfl, _, _, h1, h2, _⟩
  · exact ⟨none, 0, rfl, Nat.le_refl _, by simp [maxLen]⟩
  · exact ⟨_, _, rfl, h1, h2⟩

theorem wp_app {P : Program} (w : World) {o : Oper} {a : Act} {K : Act → World → Prop} {Q : Exit → Act → World → Prop} (s x : Operand) (t : TypeId)
    (ho : o.op = .call { callee := .builtin .append, args := #[s, x], argTypes := #[t, t] })
    (base : Nat) (e : TypeId) (i : TypeInfo) (z : Value) (size bytes : Nat) (ht : P.underlying t = some (.slice e)) (hi : P.info? e = some i) (hz : i.zero = some z)
    (hsize : i.size = size) (hby : i.bytes = bytes) (hzs : z.cells.size = size) (hsz : 0 < size)
    (v : Value) (n : Nat) (xs : List Value) (hv : a.eval s = v) (hown : w.ownsRow base e size v n xs)
    (B : Nat) (A : Option Addr) (m c : Nat) (news : List Value) (hx : a.eval x = .slice A m c) (hs : Sl w B size A m news) (h1 : ∀ u ∈ news, u.oneCell' = true)
    (N : Nat) (hN : n + m = N) (ys : List Value) (hys : xs ++ news = ys) (row : Option Nat) (hrow : v.ownBlock = row) (h63 : N ≤ maxLen) (hbytes : N * bytes ≤ 140737488355328) (hbase : base ≤ w.heap.size)
    (h : ∀ A' k' w', w'.ownsRow base e size (.slice A' N k') N ys → w.grownBy w' row → ((Value.slice A' N k').ownBlock = row ∨ (Value.slice A' N k').ownBlock = some w.heap.size) → N ≤ k' → k' ≤ maxLen →
      K (a.put o.dst (.slice A' N k')) w') : o.wp P a w K Q := by
  subst hN
  subst hys
  subst hrow
  obtain ⟨v', w', hrun, h2, h3, h4⟩ := run_app (P := P) w base t o.type e i z size bytes ht hi hz hsize hby hzs hsz v n xs hown B A m c news hs h1 h63 hbytes hbase
  obtain ⟨A', k', rfl, h5, h6⟩ := own_form h2
  unfold Oper.wp execOp
  simp only [ho, resolve, invoke, builtin, Sem.run_bind, Sem.run_pure, Result.andThen_ok, List.map_toArray, List.map_cons, List.map_nil, hv, hx, hrun]
  exact h A' k' w' h2 h3 h4 h5 h6

theorem wpList_app {P : Program} (w : World) {ops : Array Oper} {rest : List Oper} {o : Oper} {a : Act} {Q : Exit → Act → World → Prop} (hgd : o.guard = none) (s x : Operand) (t : TypeId)
    (ho : o.op = .call { callee := .builtin .append, args := #[s, x], argTypes := #[t, t] })
    (base : Nat) (e : TypeId) (i : TypeInfo) (z : Value) (size bytes : Nat) (ht : P.underlying t = some (.slice e)) (hi : P.info? e = some i) (hz : i.zero = some z)
    (hsize : i.size = size) (hby : i.bytes = bytes) (hzs : z.cells.size = size) (hsz : 0 < size)
    (v : Value) (n : Nat) (xs : List Value) (hv : a.eval s = v) (hown : w.ownsRow base e size v n xs)
    (B : Nat) (A : Option Addr) (m c : Nat) (news : List Value) (hx : a.eval x = .slice A m c) (hs : Sl w B size A m news) (h1 : ∀ u ∈ news, u.oneCell' = true)
    (N : Nat) (hN : n + m = N) (ys : List Value) (hys : xs ++ news = ys) (row : Option Nat) (hrow : v.ownBlock = row) (h63 : N ≤ maxLen) (hbytes : N * bytes ≤ 140737488355328) (hbase : base ≤ w.heap.size)
    (h : ∀ A' k' w', w'.ownsRow base e size (.slice A' N k') N ys → w.grownBy w' row → ((Value.slice A' N k').ownBlock = row ∨ (Value.slice A' N k').ownBlock = some w.heap.size) → N ≤ k' → k' ≤ maxLen →
      wpList P ops Q rest (a.put o.dst (.slice A' N k')) w') : wpList P ops Q (o :: rest) a w :=
  wpList_plain hgd fun _ hK => wp_app w s x t ho base e i z size bytes ht hi hz hsize hby hzs hsz v n xs hv hown B A m c news hx hs h1 N hN ys hys row hrow h63 hbytes hbase fun A' k' w' h2 h3 h4 h5 h6 => hK _ _ (h A' k' w' h2 h3 h4 h5 h6)

theorem step_app {P : Program} (w : World) {ops : Array Oper} {o : Oper} {a : Act} {K : Act → World → Prop} {Q : Exit → Act → World → Prop} {E : Prop} (hgd : o.guard = none) (s x : Operand) (t : TypeId)
    (ho : o.op = .call { callee := .builtin .append, args := #[s, x], argTypes := #[t, t] })
    (base : Nat) (e : TypeId) (i : TypeInfo) (z : Value) (size bytes : Nat) (ht : P.underlying t = some (.slice e)) (hi : P.info? e = some i) (hz : i.zero = some z)
    (hsize : i.size = size) (hby : i.bytes = bytes) (hzs : z.cells.size = size) (hsz : 0 < size)
    (v : Value) (n : Nat) (xs : List Value) (hv : a.eval s = v) (hown : w.ownsRow base e size v n xs)
    (B : Nat) (A : Option Addr) (m c : Nat) (news : List Value) (hx : a.eval x = .slice A m c) (hs : Sl w B size A m news) (h1 : ∀ u ∈ news, u.oneCell' = true)
    (N : Nat) (hN : n + m = N) (ys : List Value) (hys : xs ++ news = ys) (row : Option Nat) (hrow : v.ownBlock = row) (h63 : N ≤ maxLen) (hbytes : N * bytes ≤ 140737488355328) (hbase : base ≤ w.heap.size)
    (h : ∀ A' k' w', w'.ownsRow base e size (.slice A' N k') N ys → w.grownBy w' row → ((Value.slice A' N k').ownBlock = row ∨ (Value.slice A' N k').ownBlock = some w.heap.size) → N ≤ k' → k' ≤ maxLen →
      K (a.put o.dst (.slice A' N k')) w') :
    if Region.wanted o (yielded ops a.tmps) = true then Oper.wp P o a w K Q else E := by
  have hw : Region.wanted o (yielded ops a.tmps) = true := by simp [Region.wanted, hgd]
  rw [if_pos hw]
  exact wp_app w s x t ho base e i z size bytes ht hi hz hsize hby hzs hsz v n xs hv hown B A m c news hx hs h1 N hN ys hys row hrow h63 hbytes hbase h

theorem made_a (w0 : World) (e : TypeId) (size : Nat) : (w0.alloc (.cells #[] e)).drew.ownsRow w0.heap.size e size (.slice (some ⟨w0.heap.size, 0, none⟩) 0 0) 0 [] :=
  World.ownsRow_made w0 #[] 0 (Nat.le_refl _) (Nat.zero_le _) (by simp)
theorem made_b (w0 : World) (o : Obj) (e : TypeId) (size : Nat) : ((w0.alloc (.cells #[] e)).alloc o).drew.ownsRow w0.heap.size e size (.slice (some ⟨w0.heap.size, 0, none⟩) 0 0) 0 [] :=
  (World.ownsRow_made w0 #[] 0 (Nat.le_refl _) (Nat.zero_le _) (by simp)).alloc o
theorem made_c (w0 : World) (o : Obj) (e : TypeId) (size : Nat) : ((w0.alloc o).alloc (.cells #[] e)).drew.ownsRow w0.heap.size e size (.slice (some ⟨w0.heap.size + 1, 0, none⟩) 0 0) 0 [] := by
  have h := World.ownsRow_made (w0.alloc o) (base := w0.heap.size) (e := e) (size := size) #[] 0 (by simp) (Nat.zero_le _) (by simp)
  rw [World.size_alloc] at h
  exact h
/-- a row of one type, kept while a block of another type is written -/
theorem own_far {w : World} {base g i : Nat} {e t : TypeId} {size n : Nat} {v u : Value} {xs cs : List Value} (h : w.ownsRow base e size v n xs) (hB : Blk w g t cs) (hne : e ≠ t) : (w.setCell ⟨g, i, none⟩ u).ownsRow base e size v n xs := by
  obtain ⟨h1, h2⟩ := h
  refine ⟨h1, ?_⟩
  rcases h2 with h2 | ⟨g', cap, cur, hv, hg, hh, r⟩
  · exact Or.inl h2
  · refine Or.inr ⟨g', cap, cur, hv, hg, ?_, r⟩
    rw [Below.heap_setCell _ _ _ _ (fun he => ?_)]
    · exact hh
    · have he : g' = g := he
      subst he
      unfold Blk at hB
      rw [hh] at hB
      injection hB with hB
      injection hB with _ ht
      exact hne ht
theorem tw2 {w0 w1 : World} {o : Obj} {cs : List Value} {t : TypeId} {row : Option Nat} (hg : ((w0.alloc o).alloc (.cells cs.toArray t)).drew.grownBy w1 row) (hne : some (w0.heap.size + 1) ≠ row) : Blk w1 (w0.heap.size + 1) t cs := by
  have h := Blk.new (w0.alloc o) t cs
  rw [World.size_alloc] at h
  exact Blk.grown (w := ((w0.alloc o).alloc (.cells cs.toArray t)).drew) h hg hne
theorem tw3 {w0 w1 : World} {o : Obj} {cs : List Value} {t : TypeId} {row : Option Nat} (hg : ((w0.alloc (.cells cs.toArray t)).alloc o).drew.grownBy w1 row) (hne : some w0.heap.size ≠ row) : Blk w1 w0.heap.size t cs :=
  Blk.grown (w := ((w0.alloc (.cells cs.toArray t)).alloc o).drew) ((Blk.new w0 t cs).alloc o) hg hne
end Go.Proofs.Ytjnmlgfkiebkgaa
