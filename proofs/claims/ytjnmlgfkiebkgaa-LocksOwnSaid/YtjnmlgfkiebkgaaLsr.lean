/-
  slices.SortStableFunc's family at structs: a range exchanged, a rotation, a symmetric merge, the whole.
-/
import Derived.Test.YtjnmlgfkiebkgaaLsy
import Derived.Shelf.SlSortCmp.KitK
import Derived.Sort.WalkB2
import Derived.Sort.WalkB12
import Derived.Deep.LoopGhost
namespace Go.Proofs.Ytjnmlgfkiebkgaa
open Go.RowKit Go.Shelf Go.Lib Go.Sort
set_option linter.unusedVariables false
set_option linter.unusedSimpArgs false
structure styLay (P : Program) : Prop where
  mixed : P.follows .mixedOrders = true
  fS : P.funcs[68]? = some Try.f68
  fR : P.funcs[66]? = some Try.f66
  fM : P.funcs[63]? = some Try.f63
  fT : P.funcs[54]? = some Try.f54
  eS : ∀ args w, (callFunc 68 args).run P w = .ok (.enter 68 args) w
  eR : ∀ args w, (callFunc 66 args).run P w = .ok (.enter 66 args) w
  eM : ∀ args w, (callFunc 63 args).run P w = .ok (.enter 63 args) w
  eI : ∀ args w, (callFunc 62 args).run P w = .ok (.enter 62 args) w
  t0 : P.underlying 0 = some (TypeDesc.tuple #[])
  a0 : ∀ w, (isAgg 0).run P w = .ok false w
  z0 : ∀ w, (Go.sizeOf 0).run P w = .ok 1 w
  v0 : ∀ w, (zeroValue 0).run P w = .ok (Value.tuple #[]) w
  t3 : P.underlying 3 = some (TypeDesc.int IntKind.i64)
  a3 : ∀ w, (isAgg 3).run P w = .ok false w
  z3 : ∀ w, (Go.sizeOf 3).run P w = .ok 1 w
  v3 : ∀ w, (zeroValue 3).run P w = .ok (Value.int IntKind.i64 0) w
  t4 : P.underlying 4 = some (TypeDesc.bool)
  a4 : ∀ w, (isAgg 4).run P w = .ok false w
  z4 : ∀ w, (Go.sizeOf 4).run P w = .ok 1 w
  v4 : ∀ w, (zeroValue 4).run P w = .ok (Value.bool false) w
  t22 : P.underlying 41 = some (TypeDesc.slice 68)
  a22 : ∀ w, (isAgg 41).run P w = .ok false w
  z22 : ∀ w, (Go.sizeOf 41).run P w = .ok 1 w
  v22 : ∀ w, (zeroValue 41).run P w = .ok (Value.slice none 0 0) w
  t25 : P.underlying 85 = some (TypeDesc.func #[68, 68] #[3] false)
  a25 : ∀ w, (isAgg 85).run P w = .ok false w
  z25 : ∀ w, (Go.sizeOf 85).run P w = .ok 1 w
  v25 : ∀ w, (zeroValue 85).run P w = .ok (Value.nilFunc) w
  t7 : P.underlying 177 = some (TypeDesc.int IntKind.u64)
  a7 : ∀ w, (isAgg 177).run P w = .ok false w
  z7 : ∀ w, (Go.sizeOf 177).run P w = .ok 1 w
  v7 : ∀ w, (zeroValue 177).run P w = .ok (Value.int IntKind.u64 0) w
theorem sty_laid : styLay Try.prog := {
  mixed := by kernel_rfl
  fS := Try.func68
  fR := Try.func66
  fM := Try.func63
  fT := Try.func54
  eS := enters_of Try.func68 (by kernel_rfl) rfl
  eR := enters_of Try.func66 (by kernel_rfl) rfl
  eM := enters_of Try.func63 (by kernel_rfl) rfl
  eI := enters_of Try.func62 (by kernel_rfl) rfl
  t0 := Try.underlying0
  a0 := Try.isAgg0
  z0 := Try.sizeOf0
  v0 := Try.zeroValue0
  t3 := Try.underlying3
  a3 := Try.isAgg3
  z3 := Try.sizeOf3
  v3 := Try.zeroValue3
  t4 := Try.underlying4
  a4 := Try.isAgg4
  z4 := Try.sizeOf4
  v4 := Try.zeroValue4
  t22 := Try.underlying41
  a22 := Try.isAgg41
  z22 := Try.sizeOf41
  v22 := Try.zeroValue41
  t25 := Try.underlying85
  a25 := Try.isAgg85
  z25 := Try.sizeOf85
  v25 := Try.zeroValue85
  t7 := Try.underlying177
  a7 := Try.isAgg177
  z7 := Try.sizeOf177
  v7 := Try.zeroValue177 }
set_option maxHeartbeats 4000000 in
set_option maxRecDepth 1000000 in
theorem sty_swr {P : Program} {α : Type} [Inhabited α] (L : styLay P) (k : Nat) (aE : ∀ w, (isAgg 68).run P w = .ok true w) (zE : ∀ w, (Go.sizeOf 68).run P w = .ok k w) (enc : α → List Value) (fv : Value) (blk off cap a b n : Nat) (d0 d : Array α) (w0 w : World) (R : RowK enc k w0 blk off d0) (hs : d0.size = d.size) (S : SWK enc k w0 blk off d w) (hab : a + n ≤ b) (hb : b + n ≤ d.size) (hsz : d.size < 4611686018427387904) :
    Calls P 68 #[.slice (some ⟨blk, off, none⟩) d.size cap, .int .i64 a, .int .i64 b, .int .i64 n, fv] w fun e w' => e = .returned (.tuple #[]) ∧ SWK enc k w0 blk off (swr a b 0 n d) w' := by
  have mixed := L.mixed; have t0 := L.t0; have a0 := L.a0; have z0 := L.z0; have v0 := L.v0; have t3 := L.t3; have a3 := L.a3; have z3 := L.z3; have v3 := L.v3; have t4 := L.t4; have a4 := L.a4; have z4 := L.z4; have v4 := L.v4; have t22 := L.t22; have a22 := L.a22; have z22 := L.z22; have v22 := L.v22; have t25 := L.t25; have a25 := L.a25; have z25 := L.z25; have v25 := L.v25; have t7 := L.t7; have a7 := L.a7; have z7 := L.z7; have v7 := L.v7
  have u22 := run_underlying L.t22
  have FS := L.fS
  have S0 : Aside _ := S
  clear S L
  go_enter FS, Try.ntmps68
  go_wp2
  go_loopg [10] n (fun kx s10 wr => ∃ (i : Nat) (dj : Array α), i + kx = n ∧ s10 = .int .i64 i ∧ dj.size = d.size ∧ Aside (SWK enc k w0 blk off dj wr) ∧ Hid (swr a b i kx dj = swr a b 0 n d))
  case atStart => exact ⟨0, d, by omega, rfl, rfl, S0, rfl⟩
  case round =>
    clear S0
    obtain ⟨i, dj, hi, rfl, hdj, S1, HE⟩ := hrel
    cases gk with
    | zero =>
      have hin : i = n := by omega
      subst hin
      have c1 : ¬ (i : Int) < (i : Int) := by omega
      go_wp2
      go_end0
      have e : dj = swr a b 0 i d := HE.out
      rw [← e]
      exact ⟨rfl, S1.out⟩
    | succ kx =>
      have c1 : (i : Int) < (n : Int) := by omega
      have ra : IntKind.i64.wrap ((a : Int) + i) = (a : Int) + i := by rw [IntKind.wrap_i64]; omega
      have rb : IntKind.i64.wrap ((b : Int) + i) = (b : Int) + i := by rw [IntKind.wrap_i64]; omega
      have ea : ((a : Int) + i).toNat = a + i := by omega
      have pa : (0 : Int) ≤ (a : Int) + i := by omega
      have ba : (a : Int) + i < (d.size : Int) := by omega
      have eb : ((b : Int) + i).toNat = b + i := by omega
      have pb : (0 : Int) ≤ (b : Int) + i := by omega
      have bb : (b : Int) + i < (d.size : Int) := by omega
      have S2 : Aside (SWK enc k w0 blk off (swp dj (a + i) (b + i)) ((wr.drew.setCells blk (off + (a + i) * k) (enc dj[b + i]!)).setCells blk (off + (b + i) * k) (enc dj[a + i]!))) := S1.out.swapped R (a + i) (b + i) (by omega) (by omega)
      have la := S1.out.ld1 R (by omega) P (a + i) (by omega)
      have lb := S1.out.ld1 R (by omega) P (b + i) (by omega)
      have sa := S1.out.st1 R (by omega) P (a + i) (by omega) dj[b + i]!
      have sb := S1.out.st2 R (by omega) P (a + i) (b + i) (by omega) (by omega) dj[b + i]! dj[a + i]!
      have na : (enc dj[a + i]!).length = k := R.hk _
      have nb : (enc dj[b + i]!).length = k := R.hk _
      generalize enc dj[a + i]! = cI at S2 la sb na
      generalize enc dj[b + i]! = cJ at S2 lb sa sb nb
      clear S1
      go_wp2_with fail
      go_big_region_o
      clear la lb sa sb
      generalize (wr.drew.setCells blk (off + (a + i) * k) cJ).setCells blk (off + (b + i) * k) cI = w2 at S2 ⊢
      go_wp2_with fail
      go_roundg kx
      case measure => omega
      case rel => exact ⟨i + 1, swp dj (a + i) (b + i), by omega, by go_num, by rw [size_swp]; exact hdj, S2, HE⟩
set_option maxHeartbeats 4000000 in
set_option maxRecDepth 1000000 in
theorem sty_rot {P : Program} {α : Type} [Inhabited α] (L : styLay P) (k : Nat) (aE : ∀ w, (isAgg 68).run P w = .ok true w) (zE : ∀ w, (Go.sizeOf 68).run P w = .ok k w) (enc : α → List Value) (fv : Value) (blk off cap a m b : Nat) (d0 d : Array α) (w0 w : World) (R : RowK enc k w0 blk off d0) (hs : d0.size = d.size) (S : SWK enc k w0 blk off d w) (ha : a < m) (hb : m < b) (hbs : b ≤ d.size) (hsz : d.size < 4611686018427387904) :
    Calls P 66 #[.slice (some ⟨blk, off, none⟩) d.size cap, .int .i64 a, .int .i64 m, .int .i64 b, fv] w fun e w' => e = .returned (.tuple #[]) ∧ SWK enc k w0 blk off (rotL m (b - a) (m - a) (b - m) d) w' := by
  have mixed := L.mixed; have t0 := L.t0; have a0 := L.a0; have z0 := L.z0; have v0 := L.v0; have t3 := L.t3; have a3 := L.a3; have z3 := L.z3; have v3 := L.v3; have t4 := L.t4; have a4 := L.a4; have z4 := L.z4; have v4 := L.v4; have t22 := L.t22; have a22 := L.a22; have z22 := L.z22; have v22 := L.v22; have t25 := L.t25; have a25 := L.a25; have z25 := L.z25; have v25 := L.v25; have t7 := L.t7; have a7 := L.a7; have z7 := L.z7; have v7 := L.v7
  have u22 := run_underlying L.t22
  have FS := L.fR
  have eS := L.eS
  have S0 : Aside _ := S
  have r1 : (m : Int) - a = ((m - a : Nat) : Int) := by omega
  have r2 : (b : Int) - m = ((b - m : Nat) : Int) := by omega
  clear S
  go_enter FS, Try.ntmps66
  go_wp2
  go_loopg [10, 11] (b - a) (fun kx s10 s11 wr => ∃ (i j : Nat) (dj : Array α), 0 < i ∧ 0 < j ∧ i ≤ m - a ∧ j ≤ b - m ∧ i + j ≤ kx ∧ s10 = .int .i64 i ∧ s11 = .int .i64 j ∧ dj.size = d.size ∧ Aside (SWK enc k w0 blk off dj wr) ∧ Hid (rotL m kx i j dj = rotL m (b - a) (m - a) (b - m) d))
  case atStart => exact ⟨m - a, b - m, d, by omega, by omega, Nat.le_refl _, Nat.le_refl _, by omega, by first | rfl | rw [r1], by first | rfl | rw [r2], rfl, S0, rfl⟩
  case round =>
    clear S0
    obtain ⟨i, j, dj, hi0, hj0, hi1, hj1, hij, rfl, rfl, hdj, S1, HE⟩ := hrel
    obtain ⟨g, rfl⟩ : ∃ g, gk = g + 1 := ⟨gk - 1, by omega⟩
    have q1 : (m : Int) - i = ((m - i : Nat) : Int) := by omega
    by_cases h1 : i = j
    · subst h1
      have hcall := sty_swr L k aE zE enc fv blk off cap (m - i) m i d0 dj w0 wr R (by omega) S1.out (by omega) (by omega) (by omega)
      rw [hdj] at hcall
      have hsw : (swr (m - i) m 0 i dj).size = d.size := by rw [swr_size]; exact hdj
      have HE' : rotL m (g + 1) i i dj = rotL m (b - a) (m - a) (b - m) d := HE.out
      rw [rotL, if_pos rfl] at HE'
      rw [HE'] at hcall
      have c1 : ((i : Int) != i) = false := by simp
      clear S1 HE
      go_wp2_with ((try rw [q1]); go_at_fn 68; refine hcall.mono ?_; rintro e w1 ⟨rfl, S3⟩)
      go_end0
      exact ⟨rfl, S3⟩
    · have c1 : ((i : Int) != j) = true := by simp; omega
      have HE' : rotL m (g + 1) i j dj = rotL m (b - a) (m - a) (b - m) d := HE.out
      rw [rotL, if_neg h1] at HE'
      by_cases h2 : j < i
      · rw [if_pos h2] at HE'
        have c2 : (j : Int) < i := by omega
        have hcall := sty_swr L k aE zE enc fv blk off cap (m - i) m j d0 dj w0 wr R (by omega) S1.out (by omega) (by omega) (by omega)
        rw [hdj] at hcall
        have hsw : (swr (m - i) m 0 j dj).size = d.size := by rw [swr_size]; exact hdj
        have HE2 := Lib.hid HE'
        have q2 : (i : Int) - j = ((i - j : Nat) : Int) := by omega
        clear S1 HE HE'
        go_wp2_with ((try rw [q1]); go_at_fn 68; refine hcall.mono ?_; rintro e w1 ⟨rfl, S3⟩)
        go_roundg g
        case measure => omega
        case rel => exact ⟨i - j, j, swr (m - i) m 0 j dj, by omega, by omega, by omega, by omega, by omega, by first | rfl | rw [q2], rfl, hsw, S3, HE2.out⟩
      · rw [if_neg h2] at HE'
        have c2 : ¬ (j : Int) < i := by omega
        have hcall := sty_swr L k aE zE enc fv blk off cap (m - i) (m + j - i) i d0 dj w0 wr R (by omega) S1.out (by omega) (by omega) (by omega)
        rw [hdj] at hcall
        have hsw : (swr (m - i) (m + j - i) 0 i dj).size = d.size := by rw [swr_size]; exact hdj
        have HE2 := Lib.hid HE'
        have q2 : (j : Int) - i = ((j - i : Nat) : Int) := by omega
        have q3 : (m : Int) + j - i = ((m + j - i : Nat) : Int) := by omega
        clear S1 HE HE'
        go_wp2_with ((try rw [q1]); (try rw [q3]); go_at_fn 68; refine hcall.mono ?_; rintro e w1 ⟨rfl, S3⟩)
        go_roundg g
        case measure => omega
        case rel => exact ⟨i, j - i, swr (m - i) (m + j - i) 0 i dj, by omega, by omega, by omega, by omega, by omega, rfl, by first | rfl | rw [q2], hsw, S3, HE2.out⟩
set_option maxHeartbeats 8000000 in
set_option maxRecDepth 1000000 in
theorem sty_symA {P : Program} {α : Type} [Inhabited α] (L : styLay P) (k : Nat) (aE : ∀ w, (isAgg 68).run P w = .ok true w) (zE : ∀ w, (Go.sizeOf 68).run P w = .ok k w) (enc : α → List Value) (cf : α → α → Int) (g : Nat) (cb : Array Value) (blk off cap : Nat) (d0 : Array α) (w0 : World) (eg : ∀ args w, (callFunc g args).run P w = .ok (.enter g args) w) (hcmp : CmpLays P g cb enc k cf blk off d0.size w0) (R : RowK enc k w0 blk off d0) (f : Nat) (ih : ∀ (a m b : Nat) (d : Array α) (w : World), d0.size = d.size → SWK enc k w0 blk off d w → a < m → m < b → b ≤ d.size → d.size < 4611686018427387904 → b - a ≤ f → Calls P 63 #[.slice (some ⟨blk, off, none⟩) d.size cap, .int .i64 a, .int .i64 m, .int .i64 b, .func (.func g) #[] cb] w fun e w' => e = .returned (.tuple #[]) ∧ SWK enc k w0 blk off (symM (ltOf cf) f a m b d) w') (a m b : Nat) (d : Array α) (w : World) (hs : d0.size = d.size) (S : SWK enc k w0 blk off d w) (ham : a < m) (hmb : m < b) (hbs : b ≤ d.size) (hsz : d.size < 4611686018427387904) (hf : b - a ≤ f + 1) (h1 : m = a + 1) :
    Calls P 63 #[.slice (some ⟨blk, off, none⟩) d.size cap, .int .i64 a, .int .i64 m, .int .i64 b, .func (.func g) #[] cb] w fun e w' => e = .returned (.tuple #[]) ∧ SWK enc k w0 blk off (symM (ltOf cf) (f + 1) a m b d) w' := by
  have mixed := L.mixed; have t0 := L.t0; have a0 := L.a0; have z0 := L.z0; have v0 := L.v0; have t3 := L.t3; have a3 := L.a3; have z3 := L.z3; have v3 := L.v3; have t4 := L.t4; have a4 := L.a4; have z4 := L.z4; have v4 := L.v4; have t22 := L.t22; have a22 := L.a22; have z22 := L.z22; have v22 := L.v22; have t25 := L.t25; have a25 := L.a25; have z25 := L.z25; have v25 := L.v25; have t7 := L.t7; have a7 := L.a7; have z7 := L.z7; have v7 := L.v7
  have u22 := run_underlying L.t22
  have FS := L.fM
  have eR := L.eR
  have eM := L.eM
  have HC : Aside _ := hcmp
  have S0 : Aside _ := S
  have HI : Aside _ := ih
  have HL : Aside _ := L
  obtain ⟨res, hres⟩ : ∃ res, res = symM (ltOf cf) (f + 1) a m b d := ⟨_, rfl⟩
  rw [← hres]
  have HRES := Lib.hid hres
  clear S ih hcmp hres L
  have r0 : (m : Int) - a = ((m - a : Nat) : Int) := by omega
  go_enter FS, Try.ntmps63
  have c0 : ((m : Int) - a == 1) = true := by rw [beq_iff_eq]; omega
  have c0' : (((m - a : Nat) : Int) == 1) = true := by rw [beq_iff_eq]; omega
  have h1' : m ≤ a + 1 := by omega
  have H1 := Lib.hid h1
  clear h1
  go_wp2
  go_loopg [10, 11] (b - m) (fun kx s1 s2 wr => ∃ (i j : Nat), s1 = .int .i64 i ∧ s2 = .int .i64 j ∧ m ≤ i ∧ i ≤ j ∧ j ≤ b ∧ j - i ≤ kx ∧ Aside (SWK enc k w0 blk off d wr) ∧ Hid (bsF (fun h => ltOf cf d[h]! d[a]!) kx i j = bsF (fun h => ltOf cf d[h]! d[a]!) (b - m) m b))
  case atStart => exact ⟨m, b, by first | rfl | go_num, by first | rfl | go_num, Nat.le_refl _, by omega, Nat.le_refl _, by omega, S0, rfl⟩
  case round =>
    clear S0
    obtain ⟨i, j, rfl, rfl, hi0, hij, hj0, hkx, S1, HB⟩ := hrel
    by_cases hlt : i < j
    · have c1 : (i : Int) < j := by omega
      obtain ⟨kk, rfl⟩ : ∃ kk, gk = kk + 1 := ⟨gk - 1, by omega⟩
      obtain ⟨h, hh⟩ : ∃ h, h = (i + j) / 2 := ⟨_, rfl⟩
      have eh : ((i : Int) + j) / 2 = ((h : Nat) : Int) := by omega
      have hb1 : i ≤ h ∧ h < j := by omega
      have hB := HB.out
      rw [bsF, if_pos hlt, ← hh] at hB
      have HB1 := Lib.hid hB
      clear hB HB hh
      have lx := S1.out.ld R (by omega) P h (by omega)
      have ly := S1.out.ld R (by omega) P a (by omega)
      obtain ⟨x, hx⟩ : ∃ x, x = d[h]! := ⟨_, rfl⟩
      obtain ⟨y, hy⟩ : ∃ y, y = d[a]! := ⟨_, rfl⟩
      rw [← hx] at lx
      rw [← hy] at ly
      have hc := S1.out.cmp HC.out (by omega) x y
      have HX := Lib.hid hx
      have HY := Lib.hid hy
      clear hx hy
      have bx1 : ((h : Nat) : Int) < (d.size : Int) := by omega
      have by1 : ((a : Nat) : Int) < (d.size : Int) := by omega
      by_cases hv : cf x y < 0
      · have hd : decide (cf x y < 0) = true := decide_eq_true hv
        have hB := HB1.out
        rw [if_pos (by show decide (cf d[h]! d[a]! < 0) = true; rw [← HX.out, ← HY.out]; exact hd)] at hB
        have HB1 := Lib.hid hB
        clear hB
        go_wp2_with fail
        go_quiet_grown (first | (go_at_fn g; refine Calls.grown_of (hc _ _)))
        have S2 : Aside (SWK enc k w0 blk off d (grow (wr.drewN nq) osq)) := S1.out.grown nq osq
        clear lx ly hc S1
        generalize grow (wr.drewN nq) osq = w2 at S2 ⊢
        clear nq osq
        go_wp2_with fail
        go_roundg kk
        case measure => omega
        case rel => exact ⟨h + 1, j, by go_num, rfl, by omega, by omega, by omega, by omega, S2, HB1.out⟩
      · have hd : decide (cf x y < 0) = false := decide_eq_false hv
        have hB := HB1.out
        rw [if_neg (by show ¬ decide (cf d[h]! d[a]! < 0) = true; rw [← HX.out, ← HY.out, hd]; decide)] at hB
        have HB1 := Lib.hid hB
        clear hB
        go_wp2_with fail
        go_quiet_grown (first | (go_at_fn g; refine Calls.grown_of (hc _ _)))
        have S2 : Aside (SWK enc k w0 blk off d (grow (wr.drewN nq) osq)) := S1.out.grown nq osq
        clear lx ly hc S1
        generalize grow (wr.drewN nq) osq = w2 at S2 ⊢
        clear nq osq
        go_wp2_with fail
        go_roundg kk
        case measure => omega
        case rel => exact ⟨i, h, rfl, rfl, by omega, by omega, by omega, by omega, S2, HB1.out⟩
    · obtain rfl : i = j := by omega
      have hfin : i = bsF (fun h => ltOf cf d[h]! d[a]!) (b - m) m b := by
        have hB : bsF (fun h => ltOf cf d[h]! d[a]!) gk i i = _ := HB.out
        rw [← hB]
        cases gk with
        | zero => rfl
        | succ g => rw [bsF, if_neg (Nat.lt_irrefl _)]
      have HF := Lib.hid hfin
      clear hfin HB
      go_wp2
      have r1 : (i : Int) - 1 = ((i - 1 : Nat) : Int) := by omega
      have S9 := S1
      clear S1 hlt hkx
      go_loopg [13] (i - 1 - a) (fun kx s13 wr => ∃ (q : Nat) (dj : Array α), q + kx = i - 1 ∧ a ≤ q ∧ s13 = .int .i64 q ∧ dj.size = d.size ∧ Aside (SWK enc k w0 blk off dj wr) ∧ Hid (upS q kx dj = upS a (i - 1 - a) d))
      case atStart => exact ⟨a, d, by omega, Nat.le_refl _, rfl, rfl, S9, rfl⟩
      case round =>
        clear S9
        obtain ⟨q, dj, hq, haq, rfl, hdj, S1, HE⟩ := hrel
        cases gk with
        | zero =>
          have c1 : ¬ (q : Int) < (i : Int) - 1 := by omega
          have c2 : ¬ (q : Int) < ((i - 1 : Nat) : Int) := by omega
          go_wp2
          refine bodyPost_ret (results_none rfl _ _ _) rfl ?_
          have e : dj = upS a (i - 1 - a) d := HE.out
          rw [HRES.out, symM, if_pos H1.out, ← HF.out, ← e]
          exact ⟨rfl, S1.out⟩
        | succ kx =>
          have c1 : (q : Int) < (i : Int) - 1 := by omega
          have c2 : (q : Int) < ((i - 1 : Nat) : Int) := by omega
          have b1 : (q : Int) + 1 < (d.size : Int) := by omega
          have b0 : (q : Int) < (d.size : Int) := by omega
          have e1 : ((q : Int) + 1).toNat = q + 1 := by omega
          have p1 : (0 : Int) ≤ (q : Int) + 1 := by omega
          have w1 : IntKind.i64.wrap ((q : Int) + 1) = (q : Int) + 1 := by rw [IntKind.wrap_i64]; omega
          have S2 : Aside (SWK enc k w0 blk off (swp dj q (q + 1)) ((wr.drew.setCells blk (off + q * k) (enc dj[(q + 1)]!)).setCells blk (off + (q + 1) * k) (enc dj[q]!))) := S1.out.swapped R q (q + 1) (by omega) (by omega)
          have la := S1.out.ld1 R (by omega) P q (by omega)
          have lb := S1.out.ld1 R (by omega) P (q + 1) (by omega)
          have sa := S1.out.st1 R (by omega) P q (by omega) dj[(q + 1)]!
          have sb := S1.out.st2 R (by omega) P q (q + 1) (by omega) (by omega) dj[(q + 1)]! dj[q]!
          have na : (enc dj[q]!).length = k := R.hk _
          have nb : (enc dj[(q + 1)]!).length = k := R.hk _
          generalize enc dj[q]! = cI at S2 la sb na
          generalize enc dj[(q + 1)]! = cJ at S2 lb sa sb nb
          clear S1
          go_wp2_with fail
          go_big_region_o
          clear la lb sa sb
          generalize (wr.drew.setCells blk (off + q * k) cJ).setCells blk (off + (q + 1) * k) cI = w2 at S2 ⊢
          go_wp2_with fail
          go_roundg kx
          case measure => omega
          case rel => exact ⟨q + 1, swp dj q (q + 1), by omega, by omega, by go_num, by rw [size_swp]; exact hdj, S2, HE⟩
set_option maxHeartbeats 8000000 in
set_option maxRecDepth 1000000 in
theorem sty_symB {P : Program} {α : Type} [Inhabited α] (L : styLay P) (k : Nat) (aE : ∀ w, (isAgg 68).run P w = .ok true w) (zE : ∀ w, (Go.sizeOf 68).run P w = .ok k w) (enc : α → List Value) (cf : α → α → Int) (g : Nat) (cb : Array Value) (blk off cap : Nat) (d0 : Array α) (w0 : World) (eg : ∀ args w, (callFunc g args).run P w = .ok (.enter g args) w) (hcmp : CmpLays P g cb enc k cf blk off d0.size w0) (R : RowK enc k w0 blk off d0) (f : Nat) (ih : ∀ (a m b : Nat) (d : Array α) (w : World), d0.size = d.size → SWK enc k w0 blk off d w → a < m → m < b → b ≤ d.size → d.size < 4611686018427387904 → b - a ≤ f → Calls P 63 #[.slice (some ⟨blk, off, none⟩) d.size cap, .int .i64 a, .int .i64 m, .int .i64 b, .func (.func g) #[] cb] w fun e w' => e = .returned (.tuple #[]) ∧ SWK enc k w0 blk off (symM (ltOf cf) f a m b d) w') (a m b : Nat) (d : Array α) (w : World) (hs : d0.size = d.size) (S : SWK enc k w0 blk off d w) (ham : a < m) (hmb : m < b) (hbs : b ≤ d.size) (hsz : d.size < 4611686018427387904) (hf : b - a ≤ f + 1) (h1 : ¬ m = a + 1) (h2 : b = m + 1) :
    Calls P 63 #[.slice (some ⟨blk, off, none⟩) d.size cap, .int .i64 a, .int .i64 m, .int .i64 b, .func (.func g) #[] cb] w fun e w' => e = .returned (.tuple #[]) ∧ SWK enc k w0 blk off (symM (ltOf cf) (f + 1) a m b d) w' := by
  have mixed := L.mixed; have t0 := L.t0; have a0 := L.a0; have z0 := L.z0; have v0 := L.v0; have t3 := L.t3; have a3 := L.a3; have z3 := L.z3; have v3 := L.v3; have t4 := L.t4; have a4 := L.a4; have z4 := L.z4; have v4 := L.v4; have t22 := L.t22; have a22 := L.a22; have z22 := L.z22; have v22 := L.v22; have t25 := L.t25; have a25 := L.a25; have z25 := L.z25; have v25 := L.v25; have t7 := L.t7; have a7 := L.a7; have z7 := L.z7; have v7 := L.v7
  have u22 := run_underlying L.t22
  have FS := L.fM
  have eR := L.eR
  have eM := L.eM
  have HC : Aside _ := hcmp
  have S0 : Aside _ := S
  have HI : Aside _ := ih
  have HL : Aside _ := L
  obtain ⟨res, hres⟩ : ∃ res, res = symM (ltOf cf) (f + 1) a m b d := ⟨_, rfl⟩
  rw [← hres]
  have HRES := Lib.hid hres
  clear S ih hcmp hres L
  have r0 : (m : Int) - a = ((m - a : Nat) : Int) := by omega
  go_enter FS, Try.ntmps63
  have c0 : ((m : Int) - a == 1) = false := by rw [beq_eq_false_iff_ne]; omega
  have c0' : (((m - a : Nat) : Int) == 1) = false := by rw [beq_eq_false_iff_ne]; omega
  have r00 : (b : Int) - m = ((b - m : Nat) : Int) := by omega
  have d0' : ((b : Int) - m == 1) = true := by rw [beq_iff_eq]; omega
  have d0'' : (((b - m : Nat) : Int) == 1) = true := by rw [beq_iff_eq]; omega
  have h2' : b ≤ m + 1 := by omega
  have H2 := Lib.hid h2
  clear h2
  go_wp2
  go_loopg [14, 15] (m - a) (fun kx s1 s2 wr => ∃ (i j : Nat), s1 = .int .i64 i ∧ s2 = .int .i64 j ∧ a ≤ i ∧ i ≤ j ∧ j ≤ m ∧ j - i ≤ kx ∧ Aside (SWK enc k w0 blk off d wr) ∧ Hid (bsF (fun h => !ltOf cf d[m]! d[h]!) kx i j = bsF (fun h => !ltOf cf d[m]! d[h]!) (m - a) a m))
  case atStart => exact ⟨a, m, by first | rfl | go_num, by first | rfl | go_num, Nat.le_refl _, by omega, Nat.le_refl _, by omega, S0, rfl⟩
  case round =>
    clear S0
    obtain ⟨i, j, rfl, rfl, hi0, hij, hj0, hkx, S1, HB⟩ := hrel
    by_cases hlt : i < j
    · have c1 : (i : Int) < j := by omega
      obtain ⟨kk, rfl⟩ : ∃ kk, gk = kk + 1 := ⟨gk - 1, by omega⟩
      obtain ⟨h, hh⟩ : ∃ h, h = (i + j) / 2 := ⟨_, rfl⟩
      have eh : ((i : Int) + j) / 2 = ((h : Nat) : Int) := by omega
      have hb1 : i ≤ h ∧ h < j := by omega
      have hB := HB.out
      rw [bsF, if_pos hlt, ← hh] at hB
      have HB1 := Lib.hid hB
      clear hB HB hh
      have lx := S1.out.ld R (by omega) P m (by omega)
      have ly := S1.out.ld R (by omega) P h (by omega)
      obtain ⟨x, hx⟩ : ∃ x, x = d[m]! := ⟨_, rfl⟩
      obtain ⟨y, hy⟩ : ∃ y, y = d[h]! := ⟨_, rfl⟩
      rw [← hx] at lx
      rw [← hy] at ly
      have hc := S1.out.cmp HC.out (by omega) x y
      have HX := Lib.hid hx
      have HY := Lib.hid hy
      clear hx hy
      have bx1 : ((m : Nat) : Int) < (d.size : Int) := by omega
      have by1 : ((h : Nat) : Int) < (d.size : Int) := by omega
      by_cases hv : cf x y < 0
      · have hd : decide (cf x y < 0) = true := decide_eq_true hv
        have hB := HB1.out
        rw [if_neg (by show ¬ (!decide (cf d[m]! d[h]! < 0)) = true; rw [← HX.out, ← HY.out, hd]; decide)] at hB
        have HB1 := Lib.hid hB
        clear hB
        go_wp2_with fail
        go_quiet_grown (first | (go_at_fn g; refine Calls.grown_of (hc _ _)))
        have S2 : Aside (SWK enc k w0 blk off d (grow (wr.drewN nq) osq)) := S1.out.grown nq osq
        clear lx ly hc S1
        generalize grow (wr.drewN nq) osq = w2 at S2 ⊢
        clear nq osq
        go_wp2_with fail
        go_roundg kk
        case measure => omega
        case rel => exact ⟨i, h, rfl, rfl, by omega, by omega, by omega, by omega, S2, HB1.out⟩
      · have hd : decide (cf x y < 0) = false := decide_eq_false hv
        have hB := HB1.out
        rw [if_pos (by show (!decide (cf d[m]! d[h]! < 0)) = true; rw [← HX.out, ← HY.out, hd]; rfl)] at hB
        have HB1 := Lib.hid hB
        clear hB
        go_wp2_with fail
        go_quiet_grown (first | (go_at_fn g; refine Calls.grown_of (hc _ _)))
        have S2 : Aside (SWK enc k w0 blk off d (grow (wr.drewN nq) osq)) := S1.out.grown nq osq
        clear lx ly hc S1
        generalize grow (wr.drewN nq) osq = w2 at S2 ⊢
        clear nq osq
        go_wp2_with fail
        go_roundg kk
        case measure => omega
        case rel => exact ⟨h + 1, j, by go_num, rfl, by omega, by omega, by omega, by omega, S2, HB1.out⟩
    · obtain rfl : i = j := by omega
      have hfin : i = bsF (fun h => !ltOf cf d[m]! d[h]!) (m - a) a m := by
        have hB : bsF (fun h => !ltOf cf d[m]! d[h]!) gk i i = _ := HB.out
        rw [← hB]
        cases gk with
        | zero => rfl
        | succ g => rw [bsF, if_neg (Nat.lt_irrefl _)]
      have HF := Lib.hid hfin
      clear hfin HB
      go_wp2
      have S9 := S1
      clear S1 hlt hkx
      go_loopg [17] (m - i) (fun kx s17 wr => ∃ (q : Nat) (dj : Array α), i + kx = q ∧ q ≤ m ∧ s17 = .int .i64 q ∧ dj.size = d.size ∧ Aside (SWK enc k w0 blk off dj wr) ∧ Hid (dnS q kx dj = dnS m (m - i) d))
      case atStart => exact ⟨m, d, by omega, Nat.le_refl _, rfl, rfl, S9, rfl⟩
      case round =>
        clear S9
        obtain ⟨q, dj, hq, haq, rfl, hdj, S1, HE⟩ := hrel
        cases gk with
        | zero =>
          have c1 : ¬ (i : Int) < (q : Int) := by omega
          go_wp2
          refine bodyPost_ret (results_none rfl _ _ _) rfl ?_
          have e : dj = dnS m (m - i) d := HE.out
          rw [HRES.out, symM, if_neg h1, if_pos H2.out, ← HF.out, ← e]
          exact ⟨rfl, S1.out⟩
        | succ kx =>
          have c1 : (i : Int) < (q : Int) := by omega
          have hq1 : i + kx + 1 ≤ q ∧ q ≤ i + kx + 1 := by omega
          clear hq
          obtain ⟨q', hq'⟩ : ∃ q', q' = q - 1 := ⟨_, rfl⟩
          have hq2 : q' + 1 ≤ q ∧ q ≤ q' + 1 := by omega
          have r1 : (q : Int) - 1 = ((q' : Nat) : Int) := by omega
          have b1 : (q' : Int) < (d.size : Int) := by omega
          have b0 : (q : Int) < (d.size : Int) := by omega
          have HE2 : Hid (dnS q' kx (swp dj q q') = dnS m (m - i) d) := by rw [hq']; exact HE
          clear hq'
          have S2 : Aside (SWK enc k w0 blk off (swp dj q q') ((wr.drew.setCells blk (off + q * k) (enc dj[q']!)).setCells blk (off + q' * k) (enc dj[q]!))) := S1.out.swapped R q q' (by omega) (by omega)
          have la := S1.out.ld1 R (by omega) P q (by omega)
          have lb := S1.out.ld1 R (by omega) P q' (by omega)
          have sa := S1.out.st1 R (by omega) P q (by omega) dj[q']!
          have sb := S1.out.st2 R (by omega) P q q' (by omega) (by omega) dj[q']! dj[q]!
          have na : (enc dj[q]!).length = k := R.hk _
          have nb : (enc dj[q']!).length = k := R.hk _
          generalize enc dj[q]! = cI at S2 la sb na
          generalize enc dj[q']! = cJ at S2 lb sa sb nb
          clear S1
          go_wp2_with fail
          go_big_region_o
          clear la lb sa sb
          generalize (wr.drew.setCells blk (off + q * k) cJ).setCells blk (off + q' * k) cI = w2 at S2 ⊢
          go_wp2_with fail
          go_roundg kx
          case measure => omega
          case rel => exact ⟨q', swp dj q q', by omega, by omega, by first | rfl | rw [r1], by rw [size_swp]; exact hdj, S2, HE2⟩
set_option maxHeartbeats 8000000 in
set_option maxRecDepth 1000000 in
theorem sty_symC {P : Program} {α : Type} [Inhabited α] (L : styLay P) (k : Nat) (aE : ∀ w, (isAgg 68).run P w = .ok true w) (zE : ∀ w, (Go.sizeOf 68).run P w = .ok k w) (enc : α → List Value) (cf : α → α → Int) (g : Nat) (cb : Array Value) (blk off cap : Nat) (d0 : Array α) (w0 : World) (eg : ∀ args w, (callFunc g args).run P w = .ok (.enter g args) w) (hcmp : CmpLays P g cb enc k cf blk off d0.size w0) (R : RowK enc k w0 blk off d0) (f : Nat) (ih : ∀ (a m b : Nat) (d : Array α) (w : World), d0.size = d.size → SWK enc k w0 blk off d w → a < m → m < b → b ≤ d.size → d.size < 4611686018427387904 → b - a ≤ f → Calls P 63 #[.slice (some ⟨blk, off, none⟩) d.size cap, .int .i64 a, .int .i64 m, .int .i64 b, .func (.func g) #[] cb] w fun e w' => e = .returned (.tuple #[]) ∧ SWK enc k w0 blk off (symM (ltOf cf) f a m b d) w') (a m b : Nat) (d : Array α) (w : World) (hs : d0.size = d.size) (S : SWK enc k w0 blk off d w) (ham : a < m) (hmb : m < b) (hbs : b ≤ d.size) (hsz : d.size < 4611686018427387904) (hf : b - a ≤ f + 1) (h1 : ¬ m = a + 1) (h2 : ¬ b = m + 1) (h3 : (a + b) / 2 < m) :
    Calls P 63 #[.slice (some ⟨blk, off, none⟩) d.size cap, .int .i64 a, .int .i64 m, .int .i64 b, .func (.func g) #[] cb] w fun e w' => e = .returned (.tuple #[]) ∧ SWK enc k w0 blk off (symM (ltOf cf) (f + 1) a m b d) w' := by
  have mixed := L.mixed; have t0 := L.t0; have a0 := L.a0; have z0 := L.z0; have v0 := L.v0; have t3 := L.t3; have a3 := L.a3; have z3 := L.z3; have v3 := L.v3; have t4 := L.t4; have a4 := L.a4; have z4 := L.z4; have v4 := L.v4; have t22 := L.t22; have a22 := L.a22; have z22 := L.z22; have v22 := L.v22; have t25 := L.t25; have a25 := L.a25; have z25 := L.z25; have v25 := L.v25; have t7 := L.t7; have a7 := L.a7; have z7 := L.z7; have v7 := L.v7
  have u22 := run_underlying L.t22
  have FS := L.fM
  have eR := L.eR
  have eM := L.eM
  have HC : Aside _ := hcmp
  have S0 : Aside _ := S
  have HI : Aside _ := ih
  have HL : Aside _ := L
  obtain ⟨res, hres⟩ : ∃ res, res = symM (ltOf cf) (f + 1) a m b d := ⟨_, rfl⟩
  rw [← hres]
  have HRES := Lib.hid hres
  clear S ih hcmp hres L
  have r0 : (m : Int) - a = ((m - a : Nat) : Int) := by omega
  go_enter FS, Try.ntmps63
  have c0 : ((m : Int) - a == 1) = false := by rw [beq_eq_false_iff_ne]; omega
  have c0' : (((m - a : Nat) : Int) == 1) = false := by rw [beq_eq_false_iff_ne]; omega
  have r00 : (b : Int) - m = ((b - m : Nat) : Int) := by omega
  have d0' : ((b : Int) - m == 1) = false := by rw [beq_eq_false_iff_ne]; omega
  have d0'' : (((b - m : Nat) : Int) == 1) = false := by rw [beq_eq_false_iff_ne]; omega
  obtain ⟨mid, hmid⟩ : ∃ mid, mid = (a + b) / 2 := ⟨_, rfl⟩
  rw [← hmid] at h3
  have em : ((a : Int) + b) / 2 = ((mid : Nat) : Int) := by omega
  obtain ⟨n, hn⟩ : ∃ n, n = mid + m := ⟨_, rfl⟩
  have en : (mid : Int) + m = ((n : Nat) : Int) := by omega
  obtain ⟨st, hst⟩ : ∃ st, st = (if mid < m then n - b else a) := ⟨_, rfl⟩
  obtain ⟨rr, hrr⟩ : ∃ rr, rr = (if mid < m then mid else m) := ⟨_, rfl⟩
  have HDF : Hid (mid = (a + b) / 2 ∧ n = mid + m ∧ st = (if mid < m then n - b else a) ∧ rr = (if mid < m then mid else m)) := ⟨hmid, hn, hst, hrr⟩
  rw [if_pos h3] at hst hrr
  have hbnd : a ≤ st ∧ st ≤ rr ∧ rr ≤ m ∧ rr ≤ mid ∧ n - 1 - st < b ∧ mid < b ∧ a < mid := by omega
  have hbn2 : ∀ c, st ≤ c → c < rr → m ≤ n - 1 - c ∧ n - 1 - c < b ∧ c < m := fun c h4 h5 => by omega
  have HBN := Lib.hid hbn2
  clear hbn2
  have hmid1 : mid + mid ≤ a + b ∧ a + b ≤ mid + mid + 1 := by omega
  have hn1 : n ≤ mid + m ∧ mid + m ≤ n := by omega
  obtain ⟨p9, hp9⟩ : ∃ p9, p9 = n - 1 := ⟨_, rfl⟩
  have rn : (n : Int) - 1 = ((p9 : Nat) : Int) := by omega
  have hp1 : p9 + 1 ≤ n ∧ n ≤ p9 + 1 := by omega
  clear hp9
  have EM := Lib.hid em
  clear em
  go_upto_region 27 with fail
  rw [EM.out]
  (try rw [en])
  have em := EM.out
  have c3 : (mid : Int) < m := by omega
  have e3 : (n : Int) - b = ((st : Nat) : Int) := by omega
  subst rr
  have HST := Lib.hid hst
  clear hst hmid hn h3
  go_wp2
  go_loopg [20, 21] (b - a) (fun kx s1 s2 wr => ∃ (i j : Nat), s1 = .int .i64 i ∧ s2 = .int .i64 j ∧ st ≤ i ∧ i ≤ j ∧ j ≤ mid ∧ j - i ≤ kx ∧ Aside (SWK enc k w0 blk off d wr) ∧ Hid (bsF (fun c => !ltOf cf d[n - 1 - c]! d[c]!) kx i j = bsF (fun c => !ltOf cf d[n - 1 - c]! d[c]!) (b - a) st mid))
  case atStart => exact ⟨st, mid, by first | rfl | go_num, by first | rfl | go_num, Nat.le_refl _, by omega, Nat.le_refl _, by omega, S0, rfl⟩
  case round =>
    clear S0
    obtain ⟨i, j, rfl, rfl, hi0, hij, hj0, hkx, S1, HB⟩ := hrel
    by_cases hlt : i < j
    · have c1 : (i : Int) < j := by omega
      obtain ⟨kk, rfl⟩ : ∃ kk, gk = kk + 1 := ⟨gk - 1, by omega⟩
      obtain ⟨h, hh⟩ : ∃ h, h = (i + j) / 2 := ⟨_, rfl⟩
      have eh : ((i : Int) + j) / 2 = ((h : Nat) : Int) := by omega
      have hb1 : i ≤ h ∧ h < j := by omega
      have hB := HB.out
      rw [bsF, if_pos hlt, ← hh] at hB
      have HB1 := Lib.hid hB
      clear hB HB hh
      obtain ⟨x9, hx9⟩ : ∃ x9, x9 = n - 1 - h := ⟨_, rfl⟩
      have hbh := HBN.out h (by omega) (by omega)
      have ex8 : (p9 : Int) - h = ((x9 : Nat) : Int) := by omega
      have hxb : x9 < d.size := by omega
      have rx9 : IntKind.i64.wrap (x9 : Int) = (x9 : Int) := by rw [IntKind.wrap_i64]; omega
      have HX9 := Lib.hid hx9
      clear hx9
      have lx := S1.out.ld R (by omega) P x9 (by omega)
      have ly := S1.out.ld R (by omega) P h (by omega)
      obtain ⟨x, hx⟩ : ∃ x, x = d[x9]! := ⟨_, rfl⟩
      obtain ⟨y, hy⟩ : ∃ y, y = d[h]! := ⟨_, rfl⟩
      rw [← hx] at lx
      rw [← hy] at ly
      have hc := S1.out.cmp HC.out (by omega) x y
      have HX : Hid (x = d[n - 1 - h]!) := by rw [← HX9.out]; exact hx
      have HY := Lib.hid hy
      clear hx hy
      have bx1 : ((x9 : Nat) : Int) < (d.size : Int) := by omega
      have by1 : ((h : Nat) : Int) < (d.size : Int) := by omega
      by_cases hv : cf x y < 0
      · have hd : decide (cf x y < 0) = true := decide_eq_true hv
        have hB := HB1.out
        rw [if_neg (by show ¬ (!decide (cf d[n - 1 - h]! d[h]! < 0)) = true; rw [← HX.out, ← HY.out, hd]; decide)] at hB
        have HB1 := Lib.hid hB
        clear hB
        go_wp2_with fail
        go_quiet_grown (first | (go_at_fn g; refine Calls.grown_of (hc _ _)))
        have S2 : Aside (SWK enc k w0 blk off d (grow (wr.drewN nq) osq)) := S1.out.grown nq osq
        clear lx ly hc S1
        generalize grow (wr.drewN nq) osq = w2 at S2 ⊢
        clear nq osq
        go_wp2_with fail
        go_roundg kk
        case measure => omega
        case rel => exact ⟨i, h, rfl, rfl, by omega, by omega, by omega, by omega, S2, HB1.out⟩
      · have hd : decide (cf x y < 0) = false := decide_eq_false hv
        have hB := HB1.out
        rw [if_pos (by show (!decide (cf d[n - 1 - h]! d[h]! < 0)) = true; rw [← HX.out, ← HY.out, hd]; rfl)] at hB
        have HB1 := Lib.hid hB
        clear hB
        go_wp2_with fail
        go_quiet_grown (first | (go_at_fn g; refine Calls.grown_of (hc _ _)))
        have S2 : Aside (SWK enc k w0 blk off d (grow (wr.drewN nq) osq)) := S1.out.grown nq osq
        clear lx ly hc S1
        generalize grow (wr.drewN nq) osq = w2 at S2 ⊢
        clear nq osq
        go_wp2_with fail
        go_roundg kk
        case measure => omega
        case rel => exact ⟨h + 1, j, by go_num, rfl, by omega, by omega, by omega, by omega, S2, HB1.out⟩
    · obtain rfl : i = j := by omega
      have hfin : i = bsF (fun c => !ltOf cf d[n - 1 - c]! d[c]!) (b - a) st mid := by
        have hB : bsF (fun c => !ltOf cf d[n - 1 - c]! d[c]!) gk i i = _ := HB.out
        rw [← hB]
        cases gk with
        | zero => rfl
        | succ g => rw [bsF, if_neg (Nat.lt_irrefl _)]
      have HF := Lib.hid hfin
      clear hfin HB
      have hc9 : i = symC (ltOf cf) a m b d := by rw [HF.out]; unfold symC; rw [← HDF.out.1, ← HDF.out.2.1, ← HDF.out.2.2.1, ← HDF.out.2.2.2]
      have SD : Aside (SWK enc k w0 blk off d wr) := S1
      clear S1 hlt hkx HF
      obtain ⟨e, he⟩ : ∃ e, e = n - i := ⟨_, rfl⟩
      have r1 : (n : Int) - i = ((e : Nat) : Int) := by omega
      have he1 : mid ≤ e ∧ m ≤ e ∧ e ≤ b ∧ e + i ≤ n ∧ n ≤ e + i := by omega
      obtain ⟨d1, hd1⟩ : ∃ d1, d1 = (if i < m ∧ m < e then rotL m (e - i) (m - i) (e - m) d else d) := ⟨_, rfl⟩
      obtain ⟨d2, hd2⟩ : ∃ d2, d2 = (if a < i ∧ i < mid then symM (ltOf cf) f a i mid d1 else d1) := ⟨_, rfl⟩
      have hz1 : d1.size = d.size := by
        rw [hd1]
        split
        · exact rotL_size _ _ _ _ _
        · rfl
      have hz2 : d2.size = d.size := by
        rw [hd2]
        split
        · rw [symM_size]; exact hz1
        · exact hz1
      have HR9 : Hid (res = (if mid < e ∧ e < b then symM (ltOf cf) f mid e b d2 else d2)) := by
        show res = _
        rw [HRES.out, symM, if_neg h1, if_neg h2]
        dsimp only
        rw [← hc9, ← HDF.out.1, ← HDF.out.2.1, ← he, ← hd1, ← hd2]
      have Hd1 := Lib.hid hd1
      have Hd2 := Lib.hid hd2
      clear hd1 hd2 hc9 he
      by_cases gP : i < m
      · by_cases gQ : i < mid
        · by_cases gR : a < i
          · by_cases gS : e < b
            · have y0 : (i : Int) < m := by omega
              have y1 : (m : Int) < e := by omega
              have y2 : (a : Int) < i := by omega
              have y3 : (i : Int) < mid := by omega
              have y4 : (mid : Int) < e := by omega
              have y5 : (e : Int) < b := by omega
              have D1 : d1 = rotL m (e - i) (m - i) (e - m) d := Hd1.out.trans (if_pos ⟨by omega, by omega⟩)
              have D2 : d2 = symM (ltOf cf) f a i mid d1 := Hd2.out.trans (if_pos ⟨by omega, by omega⟩)
              have D3 : res = symM (ltOf cf) f mid e b d2 := HR9.out.trans (if_pos ⟨by omega, by omega⟩)
              have HD1 := Lib.hid D1
              have HD2 := Lib.hid D2
              have HD3 := Lib.hid D3
              clear D1 D2 D3
              have hcall := sty_rot HL.out k aE zE enc (.func (.func g) #[] cb) blk off cap i m e d0 d w0 wr R (by omega) SD.out (by omega) (by omega) (by omega) (by omega)
              rw [← HD1.out] at hcall
              clear SD
              go_wp2_with (go_at_fn 66; refine hcall.mono ?_; rintro e9 wk1 ⟨rfl, S3⟩)
              have SD : Aside (SWK enc k w0 blk off d1 wk1) := S3
              clear S3 hcall
              have hcall := HI.out a i mid d1 wk1 (by omega) SD.out (by omega) (by omega) (by omega) (by omega) (by omega)
              rw [hz1, ← HD2.out] at hcall
              clear SD
              go_wp2_with (go_at_fn 63; refine hcall.mono ?_; rintro e9 wk2 ⟨rfl, S3⟩)
              have SD : Aside (SWK enc k w0 blk off d2 wk2) := S3
              clear S3 hcall
              have hcall := HI.out mid e b d2 wk2 (by omega) SD.out (by omega) (by omega) (by omega) (by omega) (by omega)
              rw [hz2, ← HD3.out] at hcall
              clear SD
              go_wp2_with (go_at_fn 63; refine hcall.mono ?_; rintro e9 wk3 ⟨rfl, S3⟩)
              go_end0
              exact ⟨rfl, S3⟩
            · have y0 : (i : Int) < m := by omega
              have y1 : (m : Int) < e := by omega
              have y2 : (a : Int) < i := by omega
              have y3 : (i : Int) < mid := by omega
              have y4 : (mid : Int) < e := by omega
              have y5 : ¬ (e : Int) < b := by omega
              have D1 : d1 = rotL m (e - i) (m - i) (e - m) d := Hd1.out.trans (if_pos ⟨by omega, by omega⟩)
              have D2 : d2 = symM (ltOf cf) f a i mid d1 := Hd2.out.trans (if_pos ⟨by omega, by omega⟩)
              have D3 : res = d2 := HR9.out.trans (if_neg (by omega))
              have HD1 := Lib.hid D1
              have HD2 := Lib.hid D2
              have HD3 := Lib.hid D3
              clear D1 D2 D3
              have hcall := sty_rot HL.out k aE zE enc (.func (.func g) #[] cb) blk off cap i m e d0 d w0 wr R (by omega) SD.out (by omega) (by omega) (by omega) (by omega)
              rw [← HD1.out] at hcall
              clear SD
              go_wp2_with (go_at_fn 66; refine hcall.mono ?_; rintro e9 wk1 ⟨rfl, S3⟩)
              have SD : Aside (SWK enc k w0 blk off d1 wk1) := S3
              clear S3 hcall
              have hcall := HI.out a i mid d1 wk1 (by omega) SD.out (by omega) (by omega) (by omega) (by omega) (by omega)
              rw [hz1, ← HD2.out] at hcall
              clear SD
              go_wp2_with (go_at_fn 63; refine hcall.mono ?_; rintro e9 wk2 ⟨rfl, S3⟩)
              have SD : Aside (SWK enc k w0 blk off d2 wk2) := S3
              clear S3 hcall
              go_wp2
              go_end0
              exact ⟨rfl, by rw [HD3.out]; exact SD.out⟩
          · by_cases gS : e < b
            · have y0 : (i : Int) < m := by omega
              have y1 : (m : Int) < e := by omega
              have y2 : ¬ (a : Int) < i := by omega
              have y3 : (i : Int) < mid := by omega
              have y4 : (mid : Int) < e := by omega
              have y5 : (e : Int) < b := by omega
              have D1 : d1 = rotL m (e - i) (m - i) (e - m) d := Hd1.out.trans (if_pos ⟨by omega, by omega⟩)
              have D2 : d2 = d1 := Hd2.out.trans (if_neg (by omega))
              have D3 : res = symM (ltOf cf) f mid e b d2 := HR9.out.trans (if_pos ⟨by omega, by omega⟩)
              have HD1 := Lib.hid D1
              have HD2 := Lib.hid D2
              have HD3 := Lib.hid D3
              clear D1 D2 D3
              have hcall := sty_rot HL.out k aE zE enc (.func (.func g) #[] cb) blk off cap i m e d0 d w0 wr R (by omega) SD.out (by omega) (by omega) (by omega) (by omega)
              rw [← HD1.out] at hcall
              clear SD
              go_wp2_with (go_at_fn 66; refine hcall.mono ?_; rintro e9 wk1 ⟨rfl, S3⟩)
              have SD : Aside (SWK enc k w0 blk off d1 wk1) := S3
              clear S3 hcall
              have SD9 : Aside (SWK enc k w0 blk off d2 wk1) := by rw [HD2.out]; exact SD.out
              clear SD
              have SD : Aside (SWK enc k w0 blk off d2 wk1) := SD9.out
              clear SD9
              have hcall := HI.out mid e b d2 wk1 (by omega) SD.out (by omega) (by omega) (by omega) (by omega) (by omega)
              rw [hz2, ← HD3.out] at hcall
              clear SD
              go_wp2_with (go_at_fn 63; refine hcall.mono ?_; rintro e9 wk3 ⟨rfl, S3⟩)
              go_end0
              exact ⟨rfl, S3⟩
            · have y0 : (i : Int) < m := by omega
              have y1 : (m : Int) < e := by omega
              have y2 : ¬ (a : Int) < i := by omega
              have y3 : (i : Int) < mid := by omega
              have y4 : (mid : Int) < e := by omega
              have y5 : ¬ (e : Int) < b := by omega
              have D1 : d1 = rotL m (e - i) (m - i) (e - m) d := Hd1.out.trans (if_pos ⟨by omega, by omega⟩)
              have D2 : d2 = d1 := Hd2.out.trans (if_neg (by omega))
              have D3 : res = d2 := HR9.out.trans (if_neg (by omega))
              have HD1 := Lib.hid D1
              have HD2 := Lib.hid D2
              have HD3 := Lib.hid D3
              clear D1 D2 D3
              have hcall := sty_rot HL.out k aE zE enc (.func (.func g) #[] cb) blk off cap i m e d0 d w0 wr R (by omega) SD.out (by omega) (by omega) (by omega) (by omega)
              rw [← HD1.out] at hcall
              clear SD
              go_wp2_with (go_at_fn 66; refine hcall.mono ?_; rintro e9 wk1 ⟨rfl, S3⟩)
              have SD : Aside (SWK enc k w0 blk off d1 wk1) := S3
              clear S3 hcall
              have SD9 : Aside (SWK enc k w0 blk off d2 wk1) := by rw [HD2.out]; exact SD.out
              clear SD
              have SD : Aside (SWK enc k w0 blk off d2 wk1) := SD9.out
              clear SD9
              go_wp2
              go_end0
              exact ⟨rfl, by rw [HD3.out]; exact SD.out⟩
        · by_cases gR : a < i
          · by_cases gS : e < b
            · have y0 : (i : Int) < m := by omega
              have y1 : ¬ (m : Int) < e := by omega
              have y2 : (a : Int) < i := by omega
              have y3 : ¬ (i : Int) < mid := by omega
              have y4 : (mid : Int) < e := by omega
              have y5 : (e : Int) < b := by omega
              have D1 : d1 = d := Hd1.out.trans (if_neg (by omega))
              have D2 : d2 = d1 := Hd2.out.trans (if_neg (by omega))
              have D3 : res = symM (ltOf cf) f mid e b d2 := HR9.out.trans (if_pos ⟨by omega, by omega⟩)
              have HD1 := Lib.hid D1
              have HD2 := Lib.hid D2
              have HD3 := Lib.hid D3
              clear D1 D2 D3
              have SD9 : Aside (SWK enc k w0 blk off d1 wr) := by rw [HD1.out]; exact SD.out
              clear SD
              have SD : Aside (SWK enc k w0 blk off d1 wr) := SD9.out
              clear SD9
              have SD9 : Aside (SWK enc k w0 blk off d2 wr) := by rw [HD2.out]; exact SD.out
              clear SD
              have SD : Aside (SWK enc k w0 blk off d2 wr) := SD9.out
              clear SD9
              have hcall := HI.out mid e b d2 wr (by omega) SD.out (by omega) (by omega) (by omega) (by omega) (by omega)
              rw [hz2, ← HD3.out] at hcall
              clear SD
              go_wp2_with (go_at_fn 63; refine hcall.mono ?_; rintro e9 wk3 ⟨rfl, S3⟩)
              go_end0
              exact ⟨rfl, S3⟩
            · have y0 : (i : Int) < m := by omega
              have y1 : ¬ (m : Int) < e := by omega
              have y2 : (a : Int) < i := by omega
              have y3 : ¬ (i : Int) < mid := by omega
              have y4 : (mid : Int) < e := by omega
              have y5 : ¬ (e : Int) < b := by omega
              have D1 : d1 = d := Hd1.out.trans (if_neg (by omega))
              have D2 : d2 = d1 := Hd2.out.trans (if_neg (by omega))
              have D3 : res = d2 := HR9.out.trans (if_neg (by omega))
              have HD1 := Lib.hid D1
              have HD2 := Lib.hid D2
              have HD3 := Lib.hid D3
              clear D1 D2 D3
              have SD9 : Aside (SWK enc k w0 blk off d1 wr) := by rw [HD1.out]; exact SD.out
              clear SD
              have SD : Aside (SWK enc k w0 blk off d1 wr) := SD9.out
              clear SD9
              have SD9 : Aside (SWK enc k w0 blk off d2 wr) := by rw [HD2.out]; exact SD.out
              clear SD
              have SD : Aside (SWK enc k w0 blk off d2 wr) := SD9.out
              clear SD9
              go_wp2
              go_end0
              exact ⟨rfl, by rw [HD3.out]; exact SD.out⟩
          · by_cases gS : e < b
            · have y0 : (i : Int) < m := by omega
              have y1 : ¬ (m : Int) < e := by omega
              have y2 : ¬ (a : Int) < i := by omega
              have y3 : ¬ (i : Int) < mid := by omega
              have y4 : (mid : Int) < e := by omega
              have y5 : (e : Int) < b := by omega
              have D1 : d1 = d := Hd1.out.trans (if_neg (by omega))
              have D2 : d2 = d1 := Hd2.out.trans (if_neg (by omega))
              have D3 : res = symM (ltOf cf) f mid e b d2 := HR9.out.trans (if_pos ⟨by omega, by omega⟩)
              have HD1 := Lib.hid D1
              have HD2 := Lib.hid D2
              have HD3 := Lib.hid D3
              clear D1 D2 D3
              have SD9 : Aside (SWK enc k w0 blk off d1 wr) := by rw [HD1.out]; exact SD.out
              clear SD
              have SD : Aside (SWK enc k w0 blk off d1 wr) := SD9.out
              clear SD9
              have SD9 : Aside (SWK enc k w0 blk off d2 wr) := by rw [HD2.out]; exact SD.out
              clear SD
              have SD : Aside (SWK enc k w0 blk off d2 wr) := SD9.out
              clear SD9
              have hcall := HI.out mid e b d2 wr (by omega) SD.out (by omega) (by omega) (by omega) (by omega) (by omega)
              rw [hz2, ← HD3.out] at hcall
              clear SD
              go_wp2_with (go_at_fn 63; refine hcall.mono ?_; rintro e9 wk3 ⟨rfl, S3⟩)
              go_end0
              exact ⟨rfl, S3⟩
            · have y0 : (i : Int) < m := by omega
              have y1 : ¬ (m : Int) < e := by omega
              have y2 : ¬ (a : Int) < i := by omega
              have y3 : ¬ (i : Int) < mid := by omega
              have y4 : (mid : Int) < e := by omega
              have y5 : ¬ (e : Int) < b := by omega
              have D1 : d1 = d := Hd1.out.trans (if_neg (by omega))
              have D2 : d2 = d1 := Hd2.out.trans (if_neg (by omega))
              have D3 : res = d2 := HR9.out.trans (if_neg (by omega))
              have HD1 := Lib.hid D1
              have HD2 := Lib.hid D2
              have HD3 := Lib.hid D3
              clear D1 D2 D3
              have SD9 : Aside (SWK enc k w0 blk off d1 wr) := by rw [HD1.out]; exact SD.out
              clear SD
              have SD : Aside (SWK enc k w0 blk off d1 wr) := SD9.out
              clear SD9
              have SD9 : Aside (SWK enc k w0 blk off d2 wr) := by rw [HD2.out]; exact SD.out
              clear SD
              have SD : Aside (SWK enc k w0 blk off d2 wr) := SD9.out
              clear SD9
              go_wp2
              go_end0
              exact ⟨rfl, by rw [HD3.out]; exact SD.out⟩
      · exfalso
        omega
set_option maxHeartbeats 8000000 in
set_option maxRecDepth 1000000 in
theorem sty_symD {P : Program} {α : Type} [Inhabited α] (L : styLay P) (k : Nat) (aE : ∀ w, (isAgg 68).run P w = .ok true w) (zE : ∀ w, (Go.sizeOf 68).run P w = .ok k w) (enc : α → List Value) (cf : α → α → Int) (g : Nat) (cb : Array Value) (blk off cap : Nat) (d0 : Array α) (w0 : World) (eg : ∀ args w, (callFunc g args).run P w = .ok (.enter g args) w) (hcmp : CmpLays P g cb enc k cf blk off d0.size w0) (R : RowK enc k w0 blk off d0) (f : Nat) (ih : ∀ (a m b : Nat) (d : Array α) (w : World), d0.size = d.size → SWK enc k w0 blk off d w → a < m → m < b → b ≤ d.size → d.size < 4611686018427387904 → b - a ≤ f → Calls P 63 #[.slice (some ⟨blk, off, none⟩) d.size cap, .int .i64 a, .int .i64 m, .int .i64 b, .func (.func g) #[] cb] w fun e w' => e = .returned (.tuple #[]) ∧ SWK enc k w0 blk off (symM (ltOf cf) f a m b d) w') (a m b : Nat) (d : Array α) (w : World) (hs : d0.size = d.size) (S : SWK enc k w0 blk off d w) (ham : a < m) (hmb : m < b) (hbs : b ≤ d.size) (hsz : d.size < 4611686018427387904) (hf : b - a ≤ f + 1) (h1 : ¬ m = a + 1) (h2 : ¬ b = m + 1) (h3 : ¬ (a + b) / 2 < m) :
    Calls P 63 #[.slice (some ⟨blk, off, none⟩) d.size cap, .int .i64 a, .int .i64 m, .int .i64 b, .func (.func g) #[] cb] w fun e w' => e = .returned (.tuple #[]) ∧ SWK enc k w0 blk off (symM (ltOf cf) (f + 1) a m b d) w' := by
  have mixed := L.mixed; have t0 := L.t0; have a0 := L.a0; have z0 := L.z0; have v0 := L.v0; have t3 := L.t3; have a3 := L.a3; have z3 := L.z3; have v3 := L.v3; have t4 := L.t4; have a4 := L.a4; have z4 := L.z4; have v4 := L.v4; have t22 := L.t22; have a22 := L.a22; have z22 := L.z22; have v22 := L.v22; have t25 := L.t25; have a25 := L.a25; have z25 := L.z25; have v25 := L.v25; have t7 := L.t7; have a7 := L.a7; have z7 := L.z7; have v7 := L.v7
  have u22 := run_underlying L.t22
  have FS := L.fM
  have eR := L.eR
  have eM := L.eM
  have HC : Aside _ := hcmp
  have S0 : Aside _ := S
  have HI : Aside _ := ih
  have HL : Aside _ := L
  obtain ⟨res, hres⟩ : ∃ res, res = symM (ltOf cf) (f + 1) a m b d := ⟨_, rfl⟩
  rw [← hres]
  have HRES := Lib.hid hres
  clear S ih hcmp hres L
  have r0 : (m : Int) - a = ((m - a : Nat) : Int) := by omega
  go_enter FS, Try.ntmps63
  have c0 : ((m : Int) - a == 1) = false := by rw [beq_eq_false_iff_ne]; omega
  have c0' : (((m - a : Nat) : Int) == 1) = false := by rw [beq_eq_false_iff_ne]; omega
  have r00 : (b : Int) - m = ((b - m : Nat) : Int) := by omega
  have d0' : ((b : Int) - m == 1) = false := by rw [beq_eq_false_iff_ne]; omega
  have d0'' : (((b - m : Nat) : Int) == 1) = false := by rw [beq_eq_false_iff_ne]; omega
  obtain ⟨mid, hmid⟩ : ∃ mid, mid = (a + b) / 2 := ⟨_, rfl⟩
  rw [← hmid] at h3
  have em : ((a : Int) + b) / 2 = ((mid : Nat) : Int) := by omega
  obtain ⟨n, hn⟩ : ∃ n, n = mid + m := ⟨_, rfl⟩
  have en : (mid : Int) + m = ((n : Nat) : Int) := by omega
  obtain ⟨st, hst⟩ : ∃ st, st = (if mid < m then n - b else a) := ⟨_, rfl⟩
  obtain ⟨rr, hrr⟩ : ∃ rr, rr = (if mid < m then mid else m) := ⟨_, rfl⟩
  have HDF : Hid (mid = (a + b) / 2 ∧ n = mid + m ∧ st = (if mid < m then n - b else a) ∧ rr = (if mid < m then mid else m)) := ⟨hmid, hn, hst, hrr⟩
  rw [if_neg h3] at hst hrr
  have hbnd : a ≤ st ∧ st ≤ rr ∧ rr ≤ m ∧ rr ≤ mid ∧ n - 1 - st < b ∧ mid < b ∧ a < mid := by omega
  have hbn2 : ∀ c, st ≤ c → c < rr → m ≤ n - 1 - c ∧ n - 1 - c < b ∧ c < m := fun c h4 h5 => by omega
  have HBN := Lib.hid hbn2
  clear hbn2
  have hmid1 : mid + mid ≤ a + b ∧ a + b ≤ mid + mid + 1 := by omega
  have hn1 : n ≤ mid + m ∧ mid + m ≤ n := by omega
  obtain ⟨p9, hp9⟩ : ∃ p9, p9 = n - 1 := ⟨_, rfl⟩
  have rn : (n : Int) - 1 = ((p9 : Nat) : Int) := by omega
  have hp1 : p9 + 1 ≤ n ∧ n ≤ p9 + 1 := by omega
  clear hp9
  have EM := Lib.hid em
  clear em
  go_upto_region 27 with fail
  rw [EM.out]
  (try rw [en])
  have em := EM.out
  have c3 : ¬ (mid : Int) < m := by omega
  subst st
  subst rr
  clear hmid hn h3
  go_wp2
  go_loopg [20, 21] (b - a) (fun kx s1 s2 wr => ∃ (i j : Nat), s1 = .int .i64 i ∧ s2 = .int .i64 j ∧ a ≤ i ∧ i ≤ j ∧ j ≤ m ∧ j - i ≤ kx ∧ Aside (SWK enc k w0 blk off d wr) ∧ Hid (bsF (fun c => !ltOf cf d[n - 1 - c]! d[c]!) kx i j = bsF (fun c => !ltOf cf d[n - 1 - c]! d[c]!) (b - a) a m))
  case atStart => exact ⟨a, m, by first | rfl | go_num, by first | rfl | go_num, Nat.le_refl _, by omega, Nat.le_refl _, by omega, S0, rfl⟩
  case round =>
    clear S0
    obtain ⟨i, j, rfl, rfl, hi0, hij, hj0, hkx, S1, HB⟩ := hrel
    by_cases hlt : i < j
    · have c1 : (i : Int) < j := by omega
      obtain ⟨kk, rfl⟩ : ∃ kk, gk = kk + 1 := ⟨gk - 1, by omega⟩
      obtain ⟨h, hh⟩ : ∃ h, h = (i + j) / 2 := ⟨_, rfl⟩
      have eh : ((i : Int) + j) / 2 = ((h : Nat) : Int) := by omega
      have hb1 : i ≤ h ∧ h < j := by omega
      have hB := HB.out
      rw [bsF, if_pos hlt, ← hh] at hB
      have HB1 := Lib.hid hB
      clear hB HB hh
      obtain ⟨x9, hx9⟩ : ∃ x9, x9 = n - 1 - h := ⟨_, rfl⟩
      have hbh := HBN.out h (by omega) (by omega)
      have ex8 : (p9 : Int) - h = ((x9 : Nat) : Int) := by omega
      have hxb : x9 < d.size := by omega
      have rx9 : IntKind.i64.wrap (x9 : Int) = (x9 : Int) := by rw [IntKind.wrap_i64]; omega
      have HX9 := Lib.hid hx9
      clear hx9
      have lx := S1.out.ld R (by omega) P x9 (by omega)
      have ly := S1.out.ld R (by omega) P h (by omega)
      obtain ⟨x, hx⟩ : ∃ x, x = d[x9]! := ⟨_, rfl⟩
      obtain ⟨y, hy⟩ : ∃ y, y = d[h]! := ⟨_, rfl⟩
      rw [← hx] at lx
      rw [← hy] at ly
      have hc := S1.out.cmp HC.out (by omega) x y
      have HX : Hid (x = d[n - 1 - h]!) := by rw [← HX9.out]; exact hx
      have HY := Lib.hid hy
      clear hx hy
      have bx1 : ((x9 : Nat) : Int) < (d.size : Int) := by omega
      have by1 : ((h : Nat) : Int) < (d.size : Int) := by omega
      by_cases hv : cf x y < 0
      · have hd : decide (cf x y < 0) = true := decide_eq_true hv
        have hB := HB1.out
        rw [if_neg (by show ¬ (!decide (cf d[n - 1 - h]! d[h]! < 0)) = true; rw [← HX.out, ← HY.out, hd]; decide)] at hB
        have HB1 := Lib.hid hB
        clear hB
        go_wp2_with fail
        go_quiet_grown (first | (go_at_fn g; refine Calls.grown_of (hc _ _)))
        have S2 : Aside (SWK enc k w0 blk off d (grow (wr.drewN nq) osq)) := S1.out.grown nq osq
        clear lx ly hc S1
        generalize grow (wr.drewN nq) osq = w2 at S2 ⊢
        clear nq osq
        go_wp2_with fail
        go_roundg kk
        case measure => omega
        case rel => exact ⟨i, h, rfl, rfl, by omega, by omega, by omega, by omega, S2, HB1.out⟩
      · have hd : decide (cf x y < 0) = false := decide_eq_false hv
        have hB := HB1.out
        rw [if_pos (by show (!decide (cf d[n - 1 - h]! d[h]! < 0)) = true; rw [← HX.out, ← HY.out, hd]; rfl)] at hB
        have HB1 := Lib.hid hB
        clear hB
        go_wp2_with fail
        go_quiet_grown (first | (go_at_fn g; refine Calls.grown_of (hc _ _)))
        have S2 : Aside (SWK enc k w0 blk off d (grow (wr.drewN nq) osq)) := S1.out.grown nq osq
        clear lx ly hc S1
        generalize grow (wr.drewN nq) osq = w2 at S2 ⊢
        clear nq osq
        go_wp2_with fail
        go_roundg kk
        case measure => omega
        case rel => exact ⟨h + 1, j, by go_num, rfl, by omega, by omega, by omega, by omega, S2, HB1.out⟩
    · obtain rfl : i = j := by omega
      have hfin : i = bsF (fun c => !ltOf cf d[n - 1 - c]! d[c]!) (b - a) a m := by
        have hB : bsF (fun c => !ltOf cf d[n - 1 - c]! d[c]!) gk i i = _ := HB.out
        rw [← hB]
        cases gk with
        | zero => rfl
        | succ g => rw [bsF, if_neg (Nat.lt_irrefl _)]
      have HF := Lib.hid hfin
      clear hfin HB
      have hc9 : i = symC (ltOf cf) a m b d := by rw [HF.out]; unfold symC; rw [← HDF.out.1, ← HDF.out.2.1, ← HDF.out.2.2.1, ← HDF.out.2.2.2]
      have SD : Aside (SWK enc k w0 blk off d wr) := S1
      clear S1 hlt hkx HF
      obtain ⟨e, he⟩ : ∃ e, e = n - i := ⟨_, rfl⟩
      have r1 : (n : Int) - i = ((e : Nat) : Int) := by omega
      have he1 : mid ≤ e ∧ m ≤ e ∧ e ≤ b ∧ e + i ≤ n ∧ n ≤ e + i := by omega
      obtain ⟨d1, hd1⟩ : ∃ d1, d1 = (if i < m ∧ m < e then rotL m (e - i) (m - i) (e - m) d else d) := ⟨_, rfl⟩
      obtain ⟨d2, hd2⟩ : ∃ d2, d2 = (if a < i ∧ i < mid then symM (ltOf cf) f a i mid d1 else d1) := ⟨_, rfl⟩
      have hz1 : d1.size = d.size := by
        rw [hd1]
        split
        · exact rotL_size _ _ _ _ _
        · rfl
      have hz2 : d2.size = d.size := by
        rw [hd2]
        split
        · rw [symM_size]; exact hz1
        · exact hz1
      have HR9 : Hid (res = (if mid < e ∧ e < b then symM (ltOf cf) f mid e b d2 else d2)) := by
        show res = _
        rw [HRES.out, symM, if_neg h1, if_neg h2]
        dsimp only
        rw [← hc9, ← HDF.out.1, ← HDF.out.2.1, ← he, ← hd1, ← hd2]
      have Hd1 := Lib.hid hd1
      have Hd2 := Lib.hid hd2
      clear hd1 hd2 hc9 he
      by_cases gP : i < m
      · by_cases gQ : i < mid
        · by_cases gR : a < i
          · by_cases gS : e < b
            · have y0 : (i : Int) < m := by omega
              have y1 : (m : Int) < e := by omega
              have y2 : (a : Int) < i := by omega
              have y3 : (i : Int) < mid := by omega
              have y4 : (mid : Int) < e := by omega
              have y5 : (e : Int) < b := by omega
              have D1 : d1 = rotL m (e - i) (m - i) (e - m) d := Hd1.out.trans (if_pos ⟨by omega, by omega⟩)
              have D2 : d2 = symM (ltOf cf) f a i mid d1 := Hd2.out.trans (if_pos ⟨by omega, by omega⟩)
              have D3 : res = symM (ltOf cf) f mid e b d2 := HR9.out.trans (if_pos ⟨by omega, by omega⟩)
              have HD1 := Lib.hid D1
              have HD2 := Lib.hid D2
              have HD3 := Lib.hid D3
              clear D1 D2 D3
              have hcall := sty_rot HL.out k aE zE enc (.func (.func g) #[] cb) blk off cap i m e d0 d w0 wr R (by omega) SD.out (by omega) (by omega) (by omega) (by omega)
              rw [← HD1.out] at hcall
              clear SD
              go_wp2_with (go_at_fn 66; refine hcall.mono ?_; rintro e9 wk1 ⟨rfl, S3⟩)
              have SD : Aside (SWK enc k w0 blk off d1 wk1) := S3
              clear S3 hcall
              have hcall := HI.out a i mid d1 wk1 (by omega) SD.out (by omega) (by omega) (by omega) (by omega) (by omega)
              rw [hz1, ← HD2.out] at hcall
              clear SD
              go_wp2_with (go_at_fn 63; refine hcall.mono ?_; rintro e9 wk2 ⟨rfl, S3⟩)
              have SD : Aside (SWK enc k w0 blk off d2 wk2) := S3
              clear S3 hcall
              have hcall := HI.out mid e b d2 wk2 (by omega) SD.out (by omega) (by omega) (by omega) (by omega) (by omega)
              rw [hz2, ← HD3.out] at hcall
              clear SD
              go_wp2_with (go_at_fn 63; refine hcall.mono ?_; rintro e9 wk3 ⟨rfl, S3⟩)
              go_end0
              exact ⟨rfl, S3⟩
            · have y0 : (i : Int) < m := by omega
              have y1 : (m : Int) < e := by omega
              have y2 : (a : Int) < i := by omega
              have y3 : (i : Int) < mid := by omega
              have y4 : (mid : Int) < e := by omega
              have y5 : ¬ (e : Int) < b := by omega
              have D1 : d1 = rotL m (e - i) (m - i) (e - m) d := Hd1.out.trans (if_pos ⟨by omega, by omega⟩)
              have D2 : d2 = symM (ltOf cf) f a i mid d1 := Hd2.out.trans (if_pos ⟨by omega, by omega⟩)
              have D3 : res = d2 := HR9.out.trans (if_neg (by omega))
              have HD1 := Lib.hid D1
              have HD2 := Lib.hid D2
              have HD3 := Lib.hid D3
              clear D1 D2 D3
              have hcall := sty_rot HL.out k aE zE enc (.func (.func g) #[] cb) blk off cap i m e d0 d w0 wr R (by omega) SD.out (by omega) (by omega) (by omega) (by omega)
              rw [← HD1.out] at hcall
              clear SD
              go_wp2_with (go_at_fn 66; refine hcall.mono ?_; rintro e9 wk1 ⟨rfl, S3⟩)
              have SD : Aside (SWK enc k w0 blk off d1 wk1) := S3
              clear S3 hcall
              have hcall := HI.out a i mid d1 wk1 (by omega) SD.out (by omega) (by omega) (by omega) (by omega) (by omega)
              rw [hz1, ← HD2.out] at hcall
              clear SD
              go_wp2_with (go_at_fn 63; refine hcall.mono ?_; rintro e9 wk2 ⟨rfl, S3⟩)
              have SD : Aside (SWK enc k w0 blk off d2 wk2) := S3
              clear S3 hcall
              go_wp2
              go_end0
              exact ⟨rfl, by rw [HD3.out]; exact SD.out⟩
          · by_cases gS : e < b
            · have y0 : (i : Int) < m := by omega
              have y1 : (m : Int) < e := by omega
              have y2 : ¬ (a : Int) < i := by omega
              have y3 : (i : Int) < mid := by omega
              have y4 : (mid : Int) < e := by omega
              have y5 : (e : Int) < b := by omega
              have D1 : d1 = rotL m (e - i) (m - i) (e - m) d := Hd1.out.trans (if_pos ⟨by omega, by omega⟩)
              have D2 : d2 = d1 := Hd2.out.trans (if_neg (by omega))
              have D3 : res = symM (ltOf cf) f mid e b d2 := HR9.out.trans (if_pos ⟨by omega, by omega⟩)
              have HD1 := Lib.hid D1
              have HD2 := Lib.hid D2
              have HD3 := Lib.hid D3
              clear D1 D2 D3
              have hcall := sty_rot HL.out k aE zE enc (.func (.func g) #[] cb) blk off cap i m e d0 d w0 wr R (by omega) SD.out (by omega) (by omega) (by omega) (by omega)
              rw [← HD1.out] at hcall
              clear SD
              go_wp2_with (go_at_fn 66; refine hcall.mono ?_; rintro e9 wk1 ⟨rfl, S3⟩)
              have SD : Aside (SWK enc k w0 blk off d1 wk1) := S3
              clear S3 hcall
              have SD9 : Aside (SWK enc k w0 blk off d2 wk1) := by rw [HD2.out]; exact SD.out
              clear SD
              have SD : Aside (SWK enc k w0 blk off d2 wk1) := SD9.out
              clear SD9
              have hcall := HI.out mid e b d2 wk1 (by omega) SD.out (by omega) (by omega) (by omega) (by omega) (by omega)
              rw [hz2, ← HD3.out] at hcall
              clear SD
              go_wp2_with (go_at_fn 63; refine hcall.mono ?_; rintro e9 wk3 ⟨rfl, S3⟩)
              go_end0
              exact ⟨rfl, S3⟩
            · have y0 : (i : Int) < m := by omega
              have y1 : (m : Int) < e := by omega
              have y2 : ¬ (a : Int) < i := by omega
              have y3 : (i : Int) < mid := by omega
              have y4 : (mid : Int) < e := by omega
              have y5 : ¬ (e : Int) < b := by omega
              have D1 : d1 = rotL m (e - i) (m - i) (e - m) d := Hd1.out.trans (if_pos ⟨by omega, by omega⟩)
              have D2 : d2 = d1 := Hd2.out.trans (if_neg (by omega))
              have D3 : res = d2 := HR9.out.trans (if_neg (by omega))
              have HD1 := Lib.hid D1
              have HD2 := Lib.hid D2
              have HD3 := Lib.hid D3
              clear D1 D2 D3
              have hcall := sty_rot HL.out k aE zE enc (.func (.func g) #[] cb) blk off cap i m e d0 d w0 wr R (by omega) SD.out (by omega) (by omega) (by omega) (by omega)
              rw [← HD1.out] at hcall
              clear SD
              go_wp2_with (go_at_fn 66; refine hcall.mono ?_; rintro e9 wk1 ⟨rfl, S3⟩)
              have SD : Aside (SWK enc k w0 blk off d1 wk1) := S3
              clear S3 hcall
              have SD9 : Aside (SWK enc k w0 blk off d2 wk1) := by rw [HD2.out]; exact SD.out
              clear SD
              have SD : Aside (SWK enc k w0 blk off d2 wk1) := SD9.out
              clear SD9
              go_wp2
              go_end0
              exact ⟨rfl, by rw [HD3.out]; exact SD.out⟩
        · exfalso
          omega
      · by_cases gQ : i < mid
        · have y0 : ¬ (i : Int) < m := by omega
          have y1 : (m : Int) < e := by omega
          have y2 : (a : Int) < i := by omega
          have y3 : (i : Int) < mid := by omega
          have y4 : ¬ (mid : Int) < e := by omega
          have y5 : (e : Int) < b := by omega
          have D1 : d1 = d := Hd1.out.trans (if_neg (by omega))
          have D2 : d2 = symM (ltOf cf) f a i mid d1 := Hd2.out.trans (if_pos ⟨by omega, by omega⟩)
          have D3 : res = d2 := HR9.out.trans (if_neg (by omega))
          have HD1 := Lib.hid D1
          have HD2 := Lib.hid D2
          have HD3 := Lib.hid D3
          clear D1 D2 D3
          have SD9 : Aside (SWK enc k w0 blk off d1 wr) := by rw [HD1.out]; exact SD.out
          clear SD
          have SD : Aside (SWK enc k w0 blk off d1 wr) := SD9.out
          clear SD9
          have hcall := HI.out a i mid d1 wr (by omega) SD.out (by omega) (by omega) (by omega) (by omega) (by omega)
          rw [hz1, ← HD2.out] at hcall
          clear SD
          go_wp2_with (go_at_fn 63; refine hcall.mono ?_; rintro e9 wk2 ⟨rfl, S3⟩)
          have SD : Aside (SWK enc k w0 blk off d2 wk2) := S3
          clear S3 hcall
          go_wp2
          go_end0
          exact ⟨rfl, by rw [HD3.out]; exact SD.out⟩
        · have y0 : ¬ (i : Int) < m := by omega
          have y1 : ¬ (m : Int) < e := by omega
          have y2 : (a : Int) < i := by omega
          have y3 : ¬ (i : Int) < mid := by omega
          have y4 : ¬ (mid : Int) < e := by omega
          have y5 : (e : Int) < b := by omega
          have D1 : d1 = d := Hd1.out.trans (if_neg (by omega))
          have D2 : d2 = d1 := Hd2.out.trans (if_neg (by omega))
          have D3 : res = d2 := HR9.out.trans (if_neg (by omega))
          have HD1 := Lib.hid D1
          have HD2 := Lib.hid D2
          have HD3 := Lib.hid D3
          clear D1 D2 D3
          have SD9 : Aside (SWK enc k w0 blk off d1 wr) := by rw [HD1.out]; exact SD.out
          clear SD
          have SD : Aside (SWK enc k w0 blk off d1 wr) := SD9.out
          clear SD9
          have SD9 : Aside (SWK enc k w0 blk off d2 wr) := by rw [HD2.out]; exact SD.out
          clear SD
          have SD : Aside (SWK enc k w0 blk off d2 wr) := SD9.out
          clear SD9
          go_wp2
          go_end0
          exact ⟨rfl, by rw [HD3.out]; exact SD.out⟩
theorem sty_sym {P : Program} {α : Type} [Inhabited α] (L : styLay P) (k : Nat) (aE : ∀ w, (isAgg 68).run P w = .ok true w) (zE : ∀ w, (Go.sizeOf 68).run P w = .ok k w) (enc : α → List Value) (cf : α → α → Int) (g : Nat) (cb : Array Value) (blk off cap : Nat) (d0 : Array α) (w0 : World) (eg : ∀ args w, (callFunc g args).run P w = .ok (.enter g args) w) (hcmp : CmpLays P g cb enc k cf blk off d0.size w0) (R : RowK enc k w0 blk off d0) (fuel : Nat) : ∀ (a m b : Nat) (d : Array α) (w : World), d0.size = d.size → SWK enc k w0 blk off d w → a < m → m < b → b ≤ d.size → d.size < 4611686018427387904 → b - a ≤ fuel → Calls P 63 #[.slice (some ⟨blk, off, none⟩) d.size cap, .int .i64 a, .int .i64 m, .int .i64 b, .func (.func g) #[] cb] w fun e w' => e = .returned (.tuple #[]) ∧ SWK enc k w0 blk off (symM (ltOf cf) fuel a m b d) w' := by
  induction fuel with
  | zero => intros; omega
  | succ f ih =>
    intro a m b d w hs S ham hmb hbs hsz hf
    by_cases h1 : m = a + 1
    · exact sty_symA L k aE zE enc cf g cb blk off cap d0 w0 eg hcmp R f ih a m b d w hs S ham hmb hbs hsz hf h1
    · by_cases h2 : b = m + 1
      · exact sty_symB L k aE zE enc cf g cb blk off cap d0 w0 eg hcmp R f ih a m b d w hs S ham hmb hbs hsz hf h1 h2
      · by_cases h3 : (a + b) / 2 < m
        · exact sty_symC L k aE zE enc cf g cb blk off cap d0 w0 eg hcmp R f ih a m b d w hs S ham hmb hbs hsz hf h1 h2 h3
        · exact sty_symD L k aE zE enc cf g cb blk off cap d0 w0 eg hcmp R f ih a m b d w hs S ham hmb hbs hsz hf h1 h2 h3
set_option maxHeartbeats 8000000 in
set_option maxRecDepth 1000000 in
theorem sty_stb {P : Program} {α : Type} [Inhabited α] (L : styLay P) (k : Nat) (aE : ∀ w, (isAgg 68).run P w = .ok true w) (zE : ∀ w, (Go.sizeOf 68).run P w = .ok k w) (enc : α → List Value) (cf : α → α → Int) (g : Nat) (cb : Array Value) (blk off cap : Nat) (d0 : Array α) (w0 : World) (eg : ∀ args w, (callFunc g args).run P w = .ok (.enter g args) w) (hcmp : CmpLays P g cb enc k cf blk off d0.size w0) (R : RowK enc k w0 blk off d0) (hins : ∀ (a b : Nat) (d : Array α) (w : World), d0.size = d.size → SWK enc k w0 blk off d w → a ≤ b → b ≤ d.size → Calls P 62 #[.slice (some ⟨blk, off, none⟩) d.size cap, .int .i64 a, .int .i64 b, .func (.func g) #[] cb] w fun e w' => e = .returned (.tuple #[]) ∧ SWK enc k w0 blk off (insertionSort (ltOf cf) d a b) w') (n : Nat) (d : Array α) (w : World) (hs : d0.size = d.size) (hn : d.size = n) (S : SWK enc k w0 blk off d w) (hsz : n < 1152921504606846976) :
    Calls P 54 #[.slice (some ⟨blk, off, none⟩) n cap, .int .i64 n, .func (.func g) #[] cb] w fun e w' => e = .returned (.tuple #[]) ∧ SWK enc k w0 blk off (mrgA (ltOf cf) n n 20 (insB (ltOf cf) n n 0 d)) w' := by
  have mixed := L.mixed; have t0 := L.t0; have a0 := L.a0; have z0 := L.z0; have v0 := L.v0; have t3 := L.t3; have a3 := L.a3; have z3 := L.z3; have v3 := L.v3; have t4 := L.t4; have a4 := L.a4; have z4 := L.z4; have v4 := L.v4; have t22 := L.t22; have a22 := L.a22; have z22 := L.z22; have v22 := L.v22; have t25 := L.t25; have a25 := L.a25; have z25 := L.z25; have v25 := L.v25; have t7 := L.t7; have a7 := L.a7; have z7 := L.z7; have v7 := L.v7
  have u22 := run_underlying L.t22
  have FS := L.fT
  have eI := L.eI
  have eM := L.eM
  have HC : Aside _ := hcmp
  have S0 : Aside _ := S
  have HI : Aside _ := hins
  have HL : Aside _ := L
  obtain ⟨dI, hdI⟩ : ∃ dI, dI = insB (ltOf cf) n n 0 d := ⟨_, rfl⟩
  rw [← hdI]
  have HDI := Lib.hid hdI
  clear S hins hcmp L hdI
  go_enter FS, Try.ntmps54
  go_wp2
  go_loopg [7, 8] n (fun kx s7 s8 wr => ∃ (a : Nat) (dj : Array α), s7 = .int .i64 a ∧ s8 = .int .i64 ((a + 20 : Nat) : Int) ∧ a ≤ n ∧ n ≤ kx + a ∧ dj.size = n ∧ Aside (SWK enc k w0 blk off dj wr) ∧ Hid (insB (ltOf cf) n kx a dj = dI))
  case atStart => exact ⟨0, d, rfl, rfl, Nat.zero_le _, by omega, hn, S0, HDI.out.symm⟩
  case round =>
    clear S0
    obtain ⟨a, dj, rfl, rfl, ha, hk9, hdj, S1, HE⟩ := hrel
    by_cases hlt : a + 20 ≤ n
    · have c1 : ((a + 20 : Nat) : Int) ≤ n := by omega
      obtain ⟨kk, rfl⟩ : ∃ kk, gk = kk + 1 := ⟨gk - 1, by omega⟩
      have hE := HE.out
      rw [insB, if_pos hlt] at hE
      have HE1 := Lib.hid hE
      have hcall := HI.out a (a + 20) dj wr (by omega) S1.out (by omega) (by omega)
      rw [hdj] at hcall
      have hsw : (insertionSort (ltOf cf) dj a (a + 20)).size = n := by rw [insS_sz]; exact hdj
      have r2 : ((a + 20 : Nat) : Int) + 20 = ((a + 20 + 20 : Nat) : Int) := by omega
      clear S1 HE hE
      go_wp2_with (go_at_fn 62; refine hcall.mono ?_; rintro e9 w9 ⟨rfl, S3⟩)
      go_roundg kk
      case measure => omega
      case rel => exact ⟨a + 20, _, rfl, by first | rfl | rw [r2], by omega, by omega, hsw, S3, HE1.out⟩
    · have c1 : ¬ ((a + 20 : Nat) : Int) ≤ n := by omega
      have hE : insertionSort (ltOf cf) dj a n = dI := by
        have h9 : insB (ltOf cf) n gk a dj = dI := HE.out
        cases gk with
        | zero => exact h9
        | succ kk => rw [insB, if_neg hlt] at h9; exact h9
      have hcall := HI.out a n dj wr (by omega) S1.out ha (by omega)
      rw [hdj, hE] at hcall
      have hsI : dI.size = n := by rw [← hE, insS_sz]; exact hdj
      clear S1 HE hE
      go_wp2_with (go_at_fn 62; refine hcall.mono ?_; rintro e9 w9 ⟨rfl, S3⟩)
      have S0 : Aside (SWK enc k w0 blk off dI w9) := S3
      clear S3 hcall
      obtain ⟨dR, hdR⟩ : ∃ dR, dR = mrgA (ltOf cf) n n 20 dI := ⟨_, rfl⟩
      have HDR := Lib.hid hdR
      clear hdR hdj
      go_loopg [6] n (fun kx s6 wr => ∃ (s : Nat) (dj : Array α), s6 = .int .i64 s ∧ 20 ≤ s ∧ n ≤ kx + s ∧ s ≤ 2 * n + 20 ∧ dj.size = n ∧ Aside (SWK enc k w0 blk off dj wr) ∧ Hid (mrgA (ltOf cf) n kx s dj = dR))
      case atStart => exact ⟨20, dI, rfl, Nat.le_refl _, by omega, by omega, hsI, S0, HDR.out.symm⟩
      case round =>
        clear S0
        obtain ⟨s, dj, rfl, hs20, hks, hs2, hdj, S1, HE⟩ := hrel
        by_cases hlt2 : s < n
        · have c2 : (s : Int) < n := by omega
          obtain ⟨kk, rfl⟩ : ∃ kk, gk = kk + 1 := ⟨gk - 1, by omega⟩
          have hE := HE.out
          rw [mrgA, if_pos hlt2] at hE
          obtain ⟨dM, hdM⟩ : ∃ dM, dM = mrgB (ltOf cf) n s n 0 dj := ⟨_, rfl⟩
          rw [← hdM] at hE
          have HE1 := Lib.hid hE
          have HDM := Lib.hid hdM
          have hsM : dM.size = n := by rw [hdM, mrgB_size]; exact hdj
          have S0 : Aside (SWK enc k w0 blk off dj wr) := S1
          clear S1 HE hE hdM
          go_wp2
          go_loopg [7, 8] n (fun k3 s7 s8 wr => ∃ (a : Nat) (dk : Array α), s7 = .int .i64 a ∧ s8 = .int .i64 ((a + 2 * s : Nat) : Int) ∧ a ≤ n ∧ n ≤ k3 + a ∧ dk.size = n ∧ Aside (SWK enc k w0 blk off dk wr) ∧ Hid (mrgB (ltOf cf) n s k3 a dk = dM))
          case atStart => exact ⟨0, dj, rfl, by first | rfl | (congr 1; omega), Nat.zero_le _, by omega, hdj, S0, HDM.out.symm⟩
          case round =>
            clear S0
            obtain ⟨a, dk, rfl, rfl, ha, hk9, hdk, S1, HE⟩ := hrel
            have R1 : Hid ((a : Int) + s = ((a + s : Nat) : Int)) := by show _ = _; omega
            by_cases h3 : a + 2 * s ≤ n
            · have c3 : ((a + 2 * s : Nat) : Int) ≤ n := by omega
              obtain ⟨k4, rfl⟩ : ∃ k4, gk = k4 + 1 := ⟨gk - 1, by omega⟩
              have hE := HE.out
              rw [mrgB, if_pos h3] at hE
              have HE2 := Lib.hid hE
              have hcall := sty_sym HL.out k aE zE enc cf g cb blk off cap d0 w0 eg HC.out R n a (a + s) (a + 2 * s) dk wr (by omega) S1.out (by omega) (by omega) (by omega) (by omega) (by omega)
              rw [hdk] at hcall
              have hsw : (symM (ltOf cf) n a (a + s) (a + 2 * s) dk).size = n := by rw [symM_size]; exact hdk
              clear S1 HE hE
              go_wp2_with ((try rw [R1.out]); go_at_fn 63; refine hcall.mono ?_; rintro e9 w9 ⟨rfl, S3⟩)
              go_roundg k4
              case measure => omega
              case rel => exact ⟨a + 2 * s, _, rfl, by first | rfl | (congr 1; omega), by omega, by omega, hsw, S3, HE2.out⟩
            · have c3 : ¬ ((a + 2 * s : Nat) : Int) ≤ n := by omega
              have hE : (if a + s < n then symM (ltOf cf) n a (a + s) n dk else dk) = dM := by
                have h9 : mrgB (ltOf cf) n s gk a dk = dM := HE.out
                cases gk with
                | zero => rw [mrgB] at h9; exact h9
                | succ k4 => rw [mrgB, if_neg h3] at h9; exact h9
              by_cases h4 : a + s < n
              · have c4 : (a : Int) + s < n := by omega
                rw [if_pos h4] at hE
                have hcall := sty_sym HL.out k aE zE enc cf g cb blk off cap d0 w0 eg HC.out R n a (a + s) n dk wr (by omega) S1.out (by omega) (by omega) (by omega) (by omega) (by omega)
                rw [hdk, hE] at hcall
                clear S1 HE hE
                go_wp2_with ((try rw [R1.out]); go_at_fn 63; refine hcall.mono ?_; rintro e9 w9 ⟨rfl, S3⟩)
                go_roundg kk
                case measure => omega
                case rel => exact ⟨s * 2, dM, by first | rfl | (congr 1; omega), by omega, by omega, by omega, hsM, S3, HE1.out⟩
              · have c4 : ¬ (a : Int) + s < n := by omega
                rw [if_neg h4] at hE
                have S3 : Aside (SWK enc k w0 blk off dM wr) := by rw [← hE]; exact S1.out
                clear S1 HE hE
                go_wp2
                go_roundg kk
                case measure => omega
                case rel => exact ⟨s * 2, dM, by first | rfl | (congr 1; omega), by omega, by omega, by omega, hsM, S3, HE1.out⟩
        · have c2 : ¬ (s : Int) < n := by omega
          have hE : dj = dR := by
            have h9 : mrgA (ltOf cf) n gk s dj = dR := HE.out
            cases gk with
            | zero => exact h9
            | succ kk => rw [mrgA, if_neg hlt2] at h9; exact h9
          have HEE := Lib.hid hE
          clear HE hE
          go_wp2
          go_end0
          exact ⟨rfl, by rw [← HDR.out, ← HEE.out]; exact S1.out⟩
end Go.Proofs.Ytjnmlgfkiebkgaa
