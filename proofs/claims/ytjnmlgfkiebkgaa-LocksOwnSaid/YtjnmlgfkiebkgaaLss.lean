/-
  slices.SortStableFunc at stays and at calls, of whatever length: what the code leaves.
-/
import Derived.Test.YtjnmlgfkiebkgaaLsr
import Derived.Test.YtjnmlgfkiebkgaaLsc
import Derived.Test.YtjnmlgfkiebkgaaLsy
namespace Go.Proofs.Ytjnmlgfkiebkgaa
open Go.RowKit Go.Shelf Go.Sort
set_option linter.unusedVariables false
set_option linter.unusedSimpArgs false

theorem sty_insw (d0 d : Array St) (g a b cap : Nat) (w0 w : World) (R : RowK (fun x => styL x) 4 w0 g 0 d0) (hs : d0.size = d.size) (S : SWK (fun x => styL x) 4 w0 g 0 d w) (hab : a ≤ b) (hb : b ≤ d.size) (hz : d.size < 4611686018427387904) :
    Calls Try.prog 62 #[.slice (some ⟨g, 0, none⟩) d.size cap, .int .i64 a, .int .i64 b, .func (.func 34) #[] #[]] w fun e w' =>
      e = .returned (.tuple #[]) ∧ SWK (fun x => styL x) 4 w0 g 0 (Sort.insertionSort (ltOf styC) d a b) w' :=
  (sty_ins d g a b cap w (S.holds R.hblk R.hH hs.symm) (S.lt R.hblk) hab hb hz).mono fun _ _ ⟨he, n, os, hw⟩ => ⟨he, by rw [hw]; exact S.on R.hblk n _ os (insS_size _ _ _ _)⟩
theorem sty_stabN (d : Array St) (g cap : Nat) (w : World) (hH : HoldsK (fun x => styL x) 4 w g 0 d) (hg : g < w.heap.size) (hz : d.size < 1152921504606846976) :
    Calls Try.prog 54 #[.slice (some ⟨g, 0, none⟩) d.size cap, .int .i64 d.size, .func (.func 34) #[] #[]] w fun e w' =>
      e = .returned (.tuple #[]) ∧ SWK (fun x => styL x) 4 w g 0 (mrgA (ltOf styC) d.size d.size 20 (insB (ltOf styC) d.size d.size 0 d)) w' := by
  have R : RowK (fun x => styL x) 4 w g 0 d := ⟨fun _ => rfl, styL_one, hH, hg⟩
  exact sty_stb sty_laid 4 Try.isAgg68 Try.sizeOf68 (fun x => styL x) styC 34 #[] g 0 cap d w (enters_of Try.func34 (by kernel_rfl) rfl) (sty_lays g _ w) R
    (fun a b d' w' h1 h2 h3 h4 => sty_insw d d' g a b cap w w' R h1 h2 h3 h4 (by omega)) d.size d w rfl rfl (SWK.start hH) hz
theorem cal_insw (d0 d : Array Cal) (g a b cap : Nat) (w0 w : World) (R : RowK (fun x => calL x) 9 w0 g 0 d0) (hs : d0.size = d.size) (S : SWK (fun x => calL x) 9 w0 g 0 d w) (hab : a ≤ b) (hb : b ≤ d.size) (hz : d.size < 4611686018427387904) :
    Calls Try.prog 64 #[.slice (some ⟨g, 0, none⟩) d.size cap, .int .i64 a, .int .i64 b, .func (.func 38) #[] #[]] w fun e w' =>
      e = .returned (.tuple #[]) ∧ SWK (fun x => calL x) 9 w0 g 0 (Sort.insertionSort (ltOf calC) d a b) w' :=
  (cal_ins d g a b cap w (S.holds R.hblk R.hH hs.symm) (S.lt R.hblk) hab hb hz).mono fun _ _ ⟨he, n, os, hw⟩ => ⟨he, by rw [hw]; exact S.on R.hblk n _ os (insS_size _ _ _ _)⟩
theorem cal_stabN (d : Array Cal) (g cap : Nat) (w : World) (hH : HoldsK (fun x => calL x) 9 w g 0 d) (hg : g < w.heap.size) (hz : d.size < 1152921504606846976) :
    Calls Try.prog 56 #[.slice (some ⟨g, 0, none⟩) d.size cap, .int .i64 d.size, .func (.func 38) #[] #[]] w fun e w' =>
      e = .returned (.tuple #[]) ∧ SWK (fun x => calL x) 9 w g 0 (mrgA (ltOf calC) d.size d.size 20 (insB (ltOf calC) d.size d.size 0 d)) w' := by
  have R : RowK (fun x => calL x) 9 w g 0 d := ⟨fun _ => rfl, calL_one, hH, hg⟩
  exact cal_stb cal_laid 9 Try.isAgg62 Try.sizeOf62 (fun x => calL x) calC 38 #[] g 0 cap d w (enters_of Try.func38 (by kernel_rfl) rfl) (cal_lays g _ w) R
    (fun a b d' w' h1 h2 h3 h4 => cal_insw d d' g a b cap w w' R h1 h2 h3 h4 (by omega)) d.size d w rfl rfl (SWK.start hH) hz

theorem sty_klt : ltOf styC = klt (fun x : St => x.fr) := by
  funext x y
  unfold ltOf klt styC cmpI
  by_cases h : x.fr < y.fr
  · simp [h]
  · by_cases h2 : y.fr < x.fr
    · simp [h, h2]
    · simp [h, h2]
set_option maxRecDepth 100000 in
set_option maxHeartbeats 1000000 in
/-- SortStableFunc of whatever row of one's own: the insertion sort -/
theorem sty_sorts (l : List St) (hz : l.length < 1152921504606846976) : styS l (Sort.insertionSort (ltOf styC) l.toArray 0 l.length).toList := by
  by_cases h20 : l.length < 20
  · exact sty_small l h20
  intro w B A c h
  rcases h.2 with ⟨h0, h1⟩ | ⟨g, cap', cur, hv, hB, hg, h1, h2, h3, h4⟩
  · injection h0 with hA hn hc
    omega
  · injection hv with hA _ hc
    subst hA hc
    have hH : HoldsK (fun x => styL x) 4 w g 0 l.toArray := row_holds (enc := fun x => styL x) (k := 4) (B := B) (t := 68) (fun _ => rfl) l.toArray h
    have hst := sty_stabN l.toArray g c w hH ((Array.getElem?_eq_some_iff.1 hg).1) (by simpa using hz)
    rw [sty_klt, stab_eq _ l.toArray.size l.toArray rfl, ← sty_klt] at hst
    have hst := Lib.hid hst
    have O := Lib.hid h
    clear hH hg h h1 h2 h3 h4 cur
    go_enter Try.func33, Try.ntmps33
    go_wp2_with fail
    refine hst.out.mono ?_
    rintro e w1 ⟨rfl, n, os, rfl⟩
    go_wp2_with fail
    go_end0
    exact ⟨rfl, row_sorted (enc := fun x => styL x) (k := 4) (fun _ => rfl) l.toArray _ (by rw [insS_size]) O.out, sort_grown _⟩

theorem cal_klt : ltOf calC = klt (fun x : Cal => x.fin) := by
  funext x y
  unfold ltOf klt calC cmpI
  by_cases h : x.fin < y.fin
  · simp [h]
  · by_cases h2 : y.fin < x.fin
    · simp [h, h2]
    · simp [h, h2]
set_option maxRecDepth 100000 in
set_option maxHeartbeats 1000000 in
/-- SortStableFunc of whatever row of one's own: the insertion sort -/
theorem cal_sorts (l : List Cal) (hz : l.length < 1152921504606846976) : calS l (Sort.insertionSort (ltOf calC) l.toArray 0 l.length).toList := by
  by_cases h20 : l.length < 20
  · exact cal_small l h20
  intro w B A c h
  rcases h.2 with ⟨h0, h1⟩ | ⟨g, cap', cur, hv, hB, hg, h1, h2, h3, h4⟩
  · injection h0 with hA hn hc
    omega
  · injection hv with hA _ hc
    subst hA hc
    have hH : HoldsK (fun x => calL x) 9 w g 0 l.toArray := row_holds (enc := fun x => calL x) (k := 9) (B := B) (t := 62) (fun _ => rfl) l.toArray h
    have hst := cal_stabN l.toArray g c w hH ((Array.getElem?_eq_some_iff.1 hg).1) (by simpa using hz)
    rw [cal_klt, stab_eq _ l.toArray.size l.toArray rfl, ← cal_klt] at hst
    have hst := Lib.hid hst
    have O := Lib.hid h
    clear hH hg h h1 h2 h3 h4 cur
    go_enter Try.func37, Try.ntmps37
    go_wp2_with fail
    refine hst.out.mono ?_
    rintro e w1 ⟨rfl, n, os, rfl⟩
    go_wp2_with fail
    go_end0
    exact ⟨rfl, row_sorted (enc := fun x => calL x) (k := 9) (fun _ => rfl) l.toArray _ (by rw [insS_size]) O.out, sort_grown _⟩
end Go.Proofs.Ytjnmlgfkiebkgaa
