/-
  races.way: the turns by which a node was come to.
-/
import Derived.Test.YtgbopmgeicokoaaEvt0
import Derived.Test.YtgbopmgeicokoaaCpd
import Derived.Deep.MidRow
namespace Go.Proofs.Ytgbopmgeicokoaa
open Go.RowKit

/-- a node as way sees it: its cells, whence and by whom it was come to, the threads of its way -/
structure WN where
  cs : List Value
  fr : Int
  by_ : Int
  wy : List Nat
  len : cs.length = 168
  f6 : cs[166]? = some (.int .i64 fr)
  f7 : cs[167]? = some (.int .i64 by_)
  one : cs.toArray.all (·.oneCell') = true
def ParOf (ps : List WN) (p : WN) : Prop := (p.fr = -1 ∧ p.wy = []) ∨ ∃ (q t : Nat) (pq : WN), p.fr = q ∧ p.by_ = t ∧ ps[q]? = some pq ∧ p.wy = pq.wy ++ [t]
def tnW (t : Nat) : Tn := ⟨t, false, 0⟩
def WayR (wy : List Nat) (w : World) (e : Ending) (w' : World) : Prop := ∃ A k, e = .returned (.slice A wy.length k) ∧ w'.ownsRow w.heap.size 131 3 (.slice A wy.length k) wy.length (tnVals (wy.map tnW)) ∧ Below w.heap.size w w'
theorem own_new {W : World} {B n sz : Nat} {t : TypeId} {cs : List Value} (hl : cs.length = n * sz) (hB : B ≤ W.heap.size) (hn : n ≤ maxLen) : (W.alloc (.cells cs.toArray t)).ownsRow B t sz (.slice (some ⟨W.heap.size, 0, none⟩) n n) n cs :=
  (show Rw (W.alloc (.cells cs.toArray t)) W.heap.size t sz n n cs from ⟨hl, cs, Blk.new W t cs, hl, List.take_of_length_le (by omega), Nat.le_refl _, hn⟩).own hB
theorem own_lowW {w : World} {base base' e size n : Nat} {v : Value} {xs : List Value} (h : w.ownsRow base e size v n xs) (hb : base' ≤ base) : w.ownsRow base' e size v n xs := ⟨h.1, h.2.imp id fun ⟨g, cap, cur, e1, h1, h2⟩ => ⟨g, cap, cur, e1, Nat.le_trans hb h1, h2⟩⟩
theorem own_rowW {w : World} {B e s n g : Nat} {t : TypeId} {v : Value} {xs cs : List Value} {ds : Array Value} (h : w.ownsRow B e s v n xs) (hB : Blk w g t cs) (hne : e ≠ t) : (w.setRow g ds).ownsRow B e s v n xs := by
  have hn := own_nb h hB hne
  refine ⟨h.1, ?_⟩
  rcases h.2 with h0 | ⟨q, cap, cur, hv, hb, hg, h3⟩
  · exact Or.inl h0
  · refine Or.inr ⟨q, cap, cur, hv, hb, ?_, h3⟩
    rw [rowK (fun he => hn (by rw [hv, he]; rfl))]
    exact hg
theorem wn_at {ps : List WN} {q : Nat} {p : WN} (h : ps[q]? = some p) {i : Nat} (hi : i < 168) : (ps.flatMap WN.cs)[q * 168 + i]? = p.cs[i]? := flat_get WN.cs 168 (fun x => x.len) h i hi
theorem info_tnW : (Try.prog.info? 131).map (fun i => (i.zero, i.size, i.bytes)) = some (some (.agg #[.int .i64 0, .bool false, .int .i64 0]), 3, 24) := by kernel_rfl
theorem size_nod : (Try.prog.info? 214).map (·.size) = some 168 := by kernel_rfl
theorem tn_one (l : List Tn) : ∀ u ∈ tnVals l, u.oneCell' = true := by
  intro u hu
  obtain ⟨x, _, hx⟩ := List.mem_flatMap.1 hu
  simp at hx
  rcases hx with rfl | rfl | rfl <;> rfl

set_option maxRecDepth 100000 in
set_option maxHeartbeats 4000000 in
theorem way_any (ps : List WN) (p : WN) (A : Option Addr) (n k : Nat) (w : World) (hs : Sl w w.heap.size 168 A n (ps.flatMap WN.cs)) (hps : ∀ (j : Nat) (q : WN), ps[j]? = some q → ParOf ps q) (hp : ParOf ps p) (hn : n ≤ 100000) (hw : p.wy.length ≤ 100000) :
    Calls Try.prog 98 #[.slice A n k, .agg p.cs.toArray] w (WayR p.wy w) := by
  obtain ⟨it, hit, hitz, hits, hitb⟩ := info_parts info_tnW
  have hpl : ps.length = n := by
    have h1 := hs.1
    rw [flat_len WN.cs 168 (fun x => x.len)] at h1
    omega
  have HS := Lib.hid hs
  have HPs := Lib.hid hps
  have HP := Lib.hid hp
  have HPl := Lib.hid hpl
  have HWl := Lib.hid hw
  obtain ⟨w0, hw0⟩ : ∃ w0 : World, w0 = w.alloc (.cells p.cs.toArray 214) := ⟨_, rfl⟩
  have HB0 : Hid (Blk w0 w.heap.size 214 p.cs) := by rw [hw0]; exact Lib.hid (Blk.new w _ _)
  have HW0 : Hid (Below w.heap.size w w0) := by rw [hw0]; exact Lib.hid ((Below.refl _ _).alloc (Nat.le_refl _) _)
  have hz0 : w.heap.size < w0.heap.size := HB0.out.lt
  have HWe := Lib.hid hw0
  clear hs hps hp hpl hw hw0
  go_enter Try.func98, Try.ntmps98
  go_upto_region 1 with fail
  rw [← HWe.out]
  clear HWe
  go_wp2_with fail
  go_loopg [5] p.wy.length (fun gk v wr => ∃ (c : WN) (ts : List Nat) (v9 : Value), v = v9 ∧ c.wy.length = gk ∧ Hid (c.wy ++ ts = p.wy) ∧ Hid (ParOf ps c) ∧ Hid (Blk wr w.heap.size 214 c.cs) ∧ Hid (wr.ownsRow (w.heap.size + 1) 131 3 v9 ts.length (tnVals (ts.map tnW))) ∧ Hid (Below w.heap.size w wr))
  case atStart => exact ⟨p, [], _, rfl, rfl, Lib.hid (List.append_nil _), HP, HB0, Lib.hid (World.ownsRow_nil _ _ _ _), HW0⟩
  case round =>
    obtain ⟨c, ts, v9, hv9, hgk, HA, HC, HB, HO, HW⟩ := hrel
    subst hv9
    obtain ⟨A5, k5, hv5, hk51, hk52⟩ := own_form HO.out
    subst hv5
    have c6 : wr.cell? ⟨w.heap.size, 166, none⟩ = some (.int .i64 c.fr) := HB.out.cell c.f6
    have c7 : wr.cell? ⟨w.heap.size, 167, none⟩ = some (.int .i64 c.by_) := HB.out.cell c.f7
    rcases HC.out with ⟨hfr, hwy⟩ | ⟨q, t, pq, hfr, hby, hpq, hwy⟩
    · rw [hfr] at c6
      have Hwy := Lib.hid hwy
      clear hfr hwy
      go_wp2_with fail
      go_ret
      have hts : ts = p.wy := by have h9 := HA.out; rw [Hwy.out, List.nil_append] at h9; exact h9
      rw [← hts]
      exact ⟨A5, k5, rfl, own_lowW HO.out (Nat.le_succ _), HW.out⟩
    · rw [hfr] at c6
      rw [hby] at c7
      have Hpq := Lib.hid hpq
      have Hfr := Lib.hid hfr
      have Hwy := Lib.hid hwy
      have hqn : q < n := by rw [← HPl.out]; exact (List.getElem?_eq_some_iff.1 hpq).1
      have hlts : ts.length ≤ 100000 := by
        have h9 := congrArg List.length HA.out
        rw [List.length_append] at h9
        have := HWl.out
        omega
      have e1 : (q : Int) < n := by omega
      have e0 : (0 : Int) ≤ q := by omega
      have e2 : ¬ ((q : Int) < 0) := by omega
      have hgk2 : pq.wy.length + 1 = gk := by rw [← hgk, hwy]; simp
      obtain ⟨b, o, rfl, hbb, hcs⟩ := HS.out.2 (by omega)
      have HR : Hid (w.rangeAt b (o + q * 168) pq.cs) := Lib.hid fun i u hu => by
        have hi := (List.getElem?_eq_some_iff.1 hu).1
        rw [pq.len] at hi
        rw [Nat.add_assoc]
        exact hcs _ _ ((wn_at hpq hi).trans hu)
      clear hfr hby hpq hwy hcs hgk
      go_upto_region 4 with (at_builtin; go_must (refine wpList_app _ rfl _ _ 102 rfl (w.heap.size + 1) 131 it (.agg #[.int .i64 0, .bool false, .int .i64 0]) 3 24 Try.underlying102 hit hitz hits hitb rfl (by decide) (.slice (some ⟨wr.heap.size, 0, none⟩) 1 1) 1 (tnVals [tnW t]) rfl (own_new (W := wr) (cs := tnVals [tnW t]) rfl (by have hz9 := HB.out.lt; omega) (by simp only [maxLen]; omega)) (wr.heap.size + 1) A5 ts.length k5 (tnVals (ts.map tnW)) rfl (((Sl.of_own HO.out).below ((Below.refl _ _).alloc (Nat.le_refl _) _)).up (by omega)) (tn_one _) ((t :: ts).length) (by simp; omega) (tnVals ((t :: ts).map tnW)) (by simp [tnVals]) _ rfl (by simp only [maxLen, List.length_cons]; omega) (by simp only [List.length_cons]; omega) (by have hz9 := HB.out.lt; rw [World.size_alloc]; omega) ?_; intro A7 k7 w7 hown hg hat hk7 hk8))
      have hb7 : Below w.heap.size w w7 := (HW.out.alloc HW.out.size _).grown hg (by rw [World.size_alloc]; have := HW.out.size; omega) (fun q hq => by injection hq with hq; have hq2 : wr.heap.size = q := hq; have := HW.out.size; omega)
      have hB7 : Blk w7 w.heap.size 214 c.cs := (HB.out.alloc _).grown hg (by intro e; injection e with e; have e2 : w.heap.size = wr.heap.size := e; have := HB.out.lt; omega)
      have hR7 : w7.rangeAt b (o + q * 168) pq.cs := fun j v hv => (hb7.cell (p := ⟨b, o + q * 168 + j, none⟩) hbb).trans (HR.out j v hv)
      have d6 : w7.cell? ⟨w.heap.size, 166, none⟩ = some (.int .i64 q) := hB7.cell (by rw [c.f6, Hfr.out])
      have HR7 := Lib.hid hR7
      have HO7 := Lib.hid hown
      have HB7 := Lib.hid hb7
      have HC7 := Lib.hid hB7
      clear hown hg hat hb7 hB7 hR7 c6 c7 HB HO HW
      go_wp2_with fail
      refine wp_load_mid 214 _ rfl b (o + q * 168) rfl pq.cs _ HR7.out Try.underlying214 rfl (by rw [size_nod, pq.len]) ?_
      go_wp2_with (refine wpList_store_row rfl _ _ _ rfl w.heap.size pq.cs.toArray rfl rfl 214 c.cs.toArray HC7.out (by rw [size_nod]; simp [pq.len]) (by simp [c.len, pq.len]) pq.one ?_)
      go_roundg (gk - 1)
      case measure => omega
      case rel =>
        refine ⟨pq, t :: ts, _, rfl, by omega, ?_, Lib.hid (HPs.out q pq Hpq.out), Lib.hid (setRow_heap _ _ _ pq.cs.toArray _ _ HC7.out), Lib.hid (own_rowW HO7.out HC7.out (by decide)), Lib.hid (rowB HB7.out (Nat.le_refl _))⟩
        refine Lib.hid ?_
        have h9 := HA.out
        rw [Hwy.out, List.append_assoc] at h9
        exact h9
end Go.Proofs.Ytgbopmgeicokoaa
