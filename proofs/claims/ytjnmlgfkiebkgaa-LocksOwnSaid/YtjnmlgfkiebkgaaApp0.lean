/-
  append onto an empty slice without room (a copy in memory of its own): what was there stays as it was.
-/
import Derived.Test.YtjnmlgfkiebkgaaApp
namespace Go.Proofs.Ytjnmlgfkiebkgaa
open Go.RowKit
set_option linter.unusedVariables false
set_option linter.unusedSimpArgs false

/-- what such an append answers: a row of its own, in memory that is new or was empty -/
def App0R (w : World) (base : Nat) (e : TypeId) (size m : Nat) (news : List Value) (v : Value) (w' : World) : Prop :=
  ∃ A k, v = .slice A m k ∧ m ≤ k ∧ k ≤ maxLen ∧ w'.ownsRow base e size (.slice A m k) m news ∧ Below w.heap.size w w' ∧ (0 < m → A = some ⟨w.heap.size, 0, none⟩)

theorem run_app0 {P : Program} (w : World) (base : Nat) (t ty e : TypeId) (i : TypeInfo) (z : Value) (size bytes : Nat) (ht : P.underlying t = some (.slice e)) (hi : P.info? e = some i) (hz : i.zero = some z)
    (hsize : i.size = size) (hby : i.bytes = bytes) (hzs : z.cells.size = size) (hsz : 0 < size)
    (A0 : Option Addr) (hown : w.ownsRow base e size (.slice A0 0 0) 0 [])
    (B : Nat) (A : Option Addr) (m c : Nat) (news : List Value) (hs : Sl w B size A m news) (h1 : ∀ u ∈ news, u.oneCell' = true)
    (h63 : m ≤ maxLen) (hbytes : m * bytes ≤ 140737488355328) (hbase : base ≤ w.heap.size) :
    ∃ v' w', (Builtin.append_ #[t, t] ty #[.slice A0 0 0, .slice A m c]).run P w = .ok v' w' ∧ App0R w base e size m news v' w' := by
  obtain ⟨v', w', hr, h2, h3, h4⟩ := run_app (P := P) w base t ty e i z size bytes ht hi hz hsize hby hzs hsz _ 0 [] hown B A m c news hs h1 (by omega) (by rw [Nat.zero_add]; exact hbytes) hbase
  obtain ⟨A', k', rfl, h5, h6⟩ := own_form h2
  rw [Nat.zero_add] at h5 hr h2 h4
  rw [List.nil_append] at h2
  refine ⟨_, w', hr, A', k', rfl, h5, h6, h2, ?_⟩
  rcases Nat.eq_zero_or_pos m with h0 | hm
  · subst h0
    have hnil : news = [] := List.eq_nil_of_length_eq_zero (by simpa using hs.1)
    subst hnil
    refine ⟨?_, fun h => absurd h (by omega)⟩
    have hw : (Builtin.append_ #[t, t] ty #[.slice A0 0 0, .slice A 0 c]).run P w = .ok (.slice A0 0 0) w := by
      cases A <;> cases A0 <;> simp [Builtin.append_, run_underlying ht, sizeOf, typeInfo, hi, Builtin.lenOf, Builtin.firstCells, storeCells, loadCells, loadCellsFrom]
    rw [hw] at hr
    injection hr with _ hr
    rw [← hr]
    exact Below.refl _ _
  · obtain ⟨b, o, rfl, _, hc⟩ := hs.2 hm
    have hnews : ∀ j u, news[j]? = some u → w.cell? ((⟨b, o, none⟩ : Addr).add j) = some u := by
      intro j u hu
      have := hc j u hu
      unfold Addr.add
      split
      · rename_i hj; subst hj; exact this
      · exact this
    have hl : news.length = m * i.size := by rw [hsize]; exact hs.1
    have h63' : m ≤ 9223372036854775807 := by simp only [maxLen] at h63; omega
    rcases hown.2 with ⟨hA0, _⟩ | ⟨g, cap, cur, hA0, _⟩
    · injection hA0 with hA0
      subst hA0
      have hrun := run_append_nil (P := P) w t ty e i z ht hi hz ⟨b, o, none⟩ m c news hl hnews hm (by omega) (by rw [hby]; omega)
      rw [hrun] at hr
      injection hr with hv hr
      injection hv with hv
      subst hr
      exact ⟨⟨rfl, rfl, rfl, by simp, fun q hq => by exact Below.heap_alloc w.drew _ q hq⟩, fun _ => hv.symm⟩
    · injection hA0 with hA0
      subst hA0
      have hrun := run_append_grow (P := P) w t ty e i z ht hi hz ⟨g, 0, none⟩ 0 0 [] (by simp) (by simp) ⟨b, o, none⟩ m c news hl hnews (by omega) (by omega) (by rw [hby]; exact growslice_fits (by omega) (by rw [Nat.zero_add]; exact hbytes))
      simp only [Nat.zero_add] at hrun
      rw [hrun] at hr
      injection hr with hv hr
      injection hv with hv
      subst hr
      exact ⟨⟨rfl, rfl, rfl, by simp, fun q hq => by exact Below.heap_alloc w.drew _ q hq⟩, fun _ => hv.symm⟩

theorem wp_app0 {P : Program} (w : World) {o : Oper} {a : Act} {K : Act → World → Prop} {Q : Exit → Act → World → Prop} (s x : Operand) (t : TypeId)
    (ho : o.op = .call { callee := .builtin .append, args := #[s, x], argTypes := #[t, t] })
    (base : Nat) (e : TypeId) (i : TypeInfo) (z : Value) (size bytes : Nat) (ht : P.underlying t = some (.slice e)) (hi : P.info? e = some i) (hz : i.zero = some z)
    (hsize : i.size = size) (hby : i.bytes = bytes) (hzs : z.cells.size = size) (hsz : 0 < size)
    (A0 : Option Addr) (hv : a.eval s = .slice A0 0 0) (hown : w.ownsRow base e size (.slice A0 0 0) 0 [])
    (B : Nat) (A : Option Addr) (m c : Nat) (news : List Value) (hx : a.eval x = .slice A m c) (hs : Sl w B size A m news) (h1 : ∀ u ∈ news, u.oneCell' = true)
    (h63 : m ≤ maxLen) (hbytes : m * bytes ≤ 140737488355328) (hbase : base ≤ w.heap.size)
    (h : ∀ A' k' w', w'.ownsRow base e size (.slice A' m k') m news → Below w.heap.size w w' → (0 < m → A' = some ⟨w.heap.size, 0, none⟩) → m ≤ k' → k' ≤ maxLen →
      K (a.put o.dst (.slice A' m k')) w') : o.wp P a w K Q := by
  obtain ⟨v', w', hrun, A', k', rfl, h2, h3, h4, h5, h6⟩ := run_app0 (P := P) w base t o.type e i z size bytes ht hi hz hsize hby hzs hsz A0 hown B A m c news hs h1 h63 hbytes hbase
  unfold Oper.wp execOp
  simp only [ho, resolve, invoke, builtin, Sem.run_bind, Sem.run_pure, Result.andThen_ok, List.map_toArray, List.map_cons, List.map_nil, hv, hx, hrun]
  exact h A' k' w' h4 h5 h6 h2 h3

theorem wpList_app0 {P : Program} (w : World) {ops : Array Oper} {rest : List Oper} {o : Oper} {a : Act} {Q : Exit → Act → World → Prop} (hgd : o.guard = none) (s x : Operand) (t : TypeId)
    (ho : o.op = .call { callee := .builtin .append, args := #[s, x], argTypes := #[t, t] })
    (base : Nat) (e : TypeId) (i : TypeInfo) (z : Value) (size bytes : Nat) (ht : P.underlying t = some (.slice e)) (hi : P.info? e = some i) (hz : i.zero = some z)
    (hsize : i.size = size) (hby : i.bytes = bytes) (hzs : z.cells.size = size) (hsz : 0 < size)
    (A0 : Option Addr) (hv : a.eval s = .slice A0 0 0) (hown : w.ownsRow base e size (.slice A0 0 0) 0 [])
    (B : Nat) (A : Option Addr) (m c : Nat) (news : List Value) (hx : a.eval x = .slice A m c) (hs : Sl w B size A m news) (h1 : ∀ u ∈ news, u.oneCell' = true)
    (h63 : m ≤ maxLen) (hbytes : m * bytes ≤ 140737488355328) (hbase : base ≤ w.heap.size)
    (h : ∀ A' k' w', w'.ownsRow base e size (.slice A' m k') m news → Below w.heap.size w w' → (0 < m → A' = some ⟨w.heap.size, 0, none⟩) → m ≤ k' → k' ≤ maxLen →
      wpList P ops Q rest (a.put o.dst (.slice A' m k')) w') : wpList P ops Q (o :: rest) a w :=
  wpList_plain hgd fun _ hK => wp_app0 w s x t ho base e i z size bytes ht hi hz hsize hby hzs hsz A0 hv hown B A m c news hx hs h1 h63 hbytes hbase fun A' k' w' h2 h3 h4 h5 h6 => hK _ _ (h A' k' w' h2 h3 h4 h5 h6)

theorem step_app0 {P : Program} (w : World) {ops : Array Oper} {o : Oper} {a : Act} {K : Act → World → Prop} {Q : Exit → Act → World → Prop} {E : Prop} (hgd : o.guard = none) (s x : Operand) (t : TypeId)
    (ho : o.op = .call { callee := .builtin .append, args := #[s, x], argTypes := #[t, t] })
    (base : Nat) (e : TypeId) (i : TypeInfo) (z : Value) (size bytes : Nat) (ht : P.underlying t = some (.slice e)) (hi : P.info? e = some i) (hz : i.zero = some z)
    (hsize : i.size = size) (hby : i.bytes = bytes) (hzs : z.cells.size = size) (hsz : 0 < size)
    (A0 : Option Addr) (hv : a.eval s = .slice A0 0 0) (hown : w.ownsRow base e size (.slice A0 0 0) 0 [])
    (B : Nat) (A : Option Addr) (m c : Nat) (news : List Value) (hx : a.eval x = .slice A m c) (hs : Sl w B size A m news) (h1 : ∀ u ∈ news, u.oneCell' = true)
    (h63 : m ≤ maxLen) (hbytes : m * bytes ≤ 140737488355328) (hbase : base ≤ w.heap.size)
    (h : ∀ A' k' w', w'.ownsRow base e size (.slice A' m k') m news → Below w.heap.size w w' → (0 < m → A' = some ⟨w.heap.size, 0, none⟩) → m ≤ k' → k' ≤ maxLen →
      K (a.put o.dst (.slice A' m k')) w') :
    if Region.wanted o (yielded ops a.tmps) = true then Oper.wp P o a w K Q else E := by
  have hw : Region.wanted o (yielded ops a.tmps) = true := by simp [Region.wanted, hgd]
  rw [if_pos hw]
  exact wp_app0 w s x t ho base e i z size bytes ht hi hz hsize hby hzs hsz A0 hv hown B A m c news hx hs h1 h63 hbytes hbase h
/-- an empty row, just made -/
theorem made_e {B : Nat} (w : World) (e : TypeId) (size : Nat) (hB : B ≤ w.heap.size) : (w.alloc (.cells #[] e)).ownsRow B e size (.slice (some ⟨w.heap.size, 0, none⟩) 0 0) 0 [] :=
  World.ownsRow_made w #[] 0 hB (Nat.zero_le _) (by simp)
end Go.Proofs.Ytjnmlgfkiebkgaa
