/-
  The machine of threads over shared words, and the seven locks, as plain data: what a move does. No program in sight.
-/
import Derived.Test.YtjnmlgfkiebkgaaMem
namespace Go.Proofs.Ytjnmlgfkiebkgaa
open Go.RowKit
set_option linter.unusedVariables false
set_option linter.unusedSimpArgs false

/-- an access -/
structure Ac where
  mv : Int
  th : Int
  kd : Int
  ad : Int
  old : Int
  new : Int
  saw : Int
/-- a call -/
structure Cal where
  th : Int
  op : Int
  arg : Int
  dat : Int
  beg : Int
  fin : Int
  pt : Int
  ak : Int
  av : Int
/-- a move -/
structure Mo where
  th : Int
  op : Int
  arg : Int
  dat : Int
/-- what a task sees and turns at its desk -/
structure Dk where
  words : List Int
  log : List Ac
  th : Int
  now : Int
  used : Bool
  pt : Int
  ak : Int
  av : Int
abbrev iw (x : Int) : Int := wrap64 x
abbrev uw (x : Int) : Int := IntKind.u64.wrap x
def Dk.opn (d : Dk) (a : Int) : Bool := !d.used && (decide (0 ≤ a) && decide (a < d.words.length))
def Dk.word (d : Dk) (a : Int) : Int := d.words[a.toNat]?.getD 0
def Dk.load (d : Dk) (a : Int) : Int × Dk := bif d.opn a then (d.word a, { d with used := true, log := d.log ++ [⟨d.now, d.th, 1, a, 0, 0, d.word a⟩] }) else (0, d)
def Dk.store (d : Dk) (a w : Int) : Dk := bif d.opn a then { d with used := true, log := d.log ++ [⟨d.now, d.th, 2, a, 0, w, 0⟩], words := d.words.set a.toNat w } else d
def Dk.swap (d : Dk) (a old w : Int) : Bool × Dk :=
  bif d.opn a then
    bif d.word a == old then (true, { d with used := true, log := d.log ++ [⟨d.now, d.th, 3, a, old, w, d.word a⟩], words := d.words.set a.toNat w })
    else (false, { d with used := true, log := d.log ++ [⟨d.now, d.th, 3, a, old, w, d.word a⟩] })
  else (false, d)
def Dk.point (d : Dk) : Dk := { d with pt := d.now }
def Dk.answer (d : Dk) (k v : Int) : Dk := { d with ak := k, av := v }

/-- a thread's lock: its kind, its place, its two numbers -/
structure Lk where
  kd : Int
  me : Int
  all : Int
  at_ : Int
  x : Int
  y : Int
def Lk.oth (l : Lk) (k : Int) : Int := let k1 := iw (k + 1); min (bif k1 == l.me then iw (k1 + 1) else k1) l.all

def Lk.flagA (l : Lk) (d : Dk) : Bool × Lk × Dk :=
  let r := d.swap 1 0 (bif l.kd == 7 then 18446744073709551615 else 1)
  bif r.1 then (true, l, r.2.point) else (false, l, r.2)
def Lk.tickA (l : Lk) (d : Dk) : Bool × Lk × Dk :=
  bif l.at_ == 0 then (false, { l with x := (d.load 1).1, at_ := 1 }, (d.load 1).2)
  else bif l.at_ == 1 then
    bif (d.swap 1 l.x (uw (l.x + 1))).1 then (false, { l with at_ := 2 }, (d.swap 1 l.x (uw (l.x + 1))).2.point) else (false, { l with at_ := 0 }, (d.swap 1 l.x (uw (l.x + 1))).2)
  else ((d.load 2).1 == l.x, l, (d.load 2).2)
def Lk.queueA (l : Lk) (d : Dk) : Bool × Lk × Dk :=
  bif l.at_ == 0 then (false, { l with at_ := 1 }, d.store (iw (2 + l.x)) 1)
  else bif l.at_ == 1 then (false, { l with y := (d.load 1).1, at_ := 2 }, (d.load 1).2)
  else bif l.at_ == 2 then
    bif (d.swap 1 l.y (uw l.x)).1 then (false, { l with at_ := 3 }, (d.swap 1 l.y (uw l.x)).2.point) else (false, { l with at_ := 1 }, (d.swap 1 l.y (uw l.x)).2)
  else ((d.load (iw (2 + iw l.y))).1 == 0, l, (d.load (iw (2 + iw l.y))).2)
def nword (t : Int) : Int := iw (2 + iw (2 * t))
def Lk.nodeA (l : Lk) (d : Dk) : Bool × Lk × Dk :=
  bif l.at_ == 0 then (false, { l with at_ := 1 }, d.store (nword l.me) 0)
  else bif l.at_ == 1 then (false, { l with y := (d.load 1).1, at_ := 2 }, (d.load 1).2)
  else bif l.at_ == 2 then
    bif (d.swap 1 l.y (uw (iw (l.me + 1)))).1 then
      bif l.y == 0 then (true, { l with at_ := 0 }, (d.swap 1 l.y (uw (iw (l.me + 1)))).2.point)
      else (false, { l with at_ := 3 }, (d.swap 1 l.y (uw (iw (l.me + 1)))).2.point)
    else (false, { l with at_ := 1 }, (d.swap 1 l.y (uw (iw (l.me + 1)))).2)
  else bif l.at_ == 3 then (false, { l with at_ := 4 }, d.store (iw (nword l.me + 1)) 1)
  else bif l.at_ == 4 then (false, { l with at_ := 5 }, d.store (nword (iw (iw l.y - 1))) (uw (iw (l.me + 1))))
  else bif (d.load (iw (nword l.me + 1))).1 == 0 then (true, { l with at_ := 0 }, (d.load (iw (nword l.me + 1))).2) else (false, l, (d.load (iw (nword l.me + 1))).2)
def Lk.up (l : Lk) (d : Dk) : Bool × Lk × Dk :=
  bif decide (iw (l.x + 1) < l.all) then (false, { l with at_ := 0, x := iw (l.x + 1) }, d) else (true, { l with at_ := 0, x := iw (l.x + 1) }, d.point)
def Lk.filtA (l : Lk) (d : Dk) : Bool × Lk × Dk :=
  bif l.at_ == 0 then (false, { l with at_ := 1 }, d.store (iw (1 + l.me)) (uw l.x))
  else bif l.at_ == 1 then (false, { l with at_ := 2, y := l.oth (-1) }, d.store (iw (l.all + l.x)) (uw l.me))
  else bif l.at_ == 2 then
    bif decide (l.x ≤ iw (d.load (iw (1 + l.y))).1) then (false, { l with at_ := 3 }, (d.load (iw (1 + l.y))).2)
    else bif l.oth l.y == l.all then { l with y := l.oth l.y }.up (d.load (iw (1 + l.y))).2 else (false, { l with y := l.oth l.y }, (d.load (iw (1 + l.y))).2)
  else bif (d.load (iw (l.all + l.x))).1 == uw l.me then (false, { l with at_ := 2, y := l.oth (-1) }, (d.load (iw (l.all + l.x))).2)
  else l.up (d.load (iw (l.all + l.x))).2
/-- the bakery: x is the thread that is looked at, y the own number -/
def Lk.bakeA (l : Lk) (d : Dk) : Bool × Lk × Dk :=
  bif l.at_ == 0 then (false, { l with x := l.oth (-1), y := 0, at_ := bif l.oth (-1) == l.all then 2 else 1 }, d.store (iw (1 + iw (2 * l.me))) 1)
  else bif l.at_ == 1 then (false, { l with y := max l.y (iw (d.load (iw (2 + iw (2 * l.x)))).1), x := l.oth l.x, at_ := bif l.oth l.x == l.all then 2 else 1 }, (d.load (iw (2 + iw (2 * l.x)))).2)
  else bif l.at_ == 2 then (false, { l with y := iw (l.y + 1), at_ := 3 }, d.store (iw (2 + iw (2 * l.me))) (uw (iw (l.y + 1))))
  else bif l.at_ == 3 then (l.oth (-1) == l.all, { l with at_ := 4, x := l.oth (-1) }, (d.store (iw (1 + iw (2 * l.me))) 0).point)
  else bif l.at_ == 4 then (false, { l with at_ := bif (d.load (iw (1 + iw (2 * l.x)))).1 == 0 then 5 else 4 }, (d.load (iw (1 + iw (2 * l.x)))).2)
  else
    let n := iw (d.load (iw (2 + iw (2 * l.x)))).1
    bif n != 0 && (decide (n < l.y) || n == l.y && decide (l.x < l.me)) then (false, l, (d.load (iw (2 + iw (2 * l.x)))).2)
    else (l.oth l.x == l.all, { l with at_ := 4, x := l.oth l.x }, (d.load (iw (2 + iw (2 * l.x)))).2)
def Lk.acq (l : Lk) (d : Dk) : Bool × Lk × Dk :=
  bif l.kd == 2 then l.tickA d else bif l.kd == 3 then l.queueA d else bif l.kd == 4 then l.nodeA d else bif l.kd == 5 then l.filtA d else bif l.kd == 6 then l.bakeA d else l.flagA d

def Lk.nodeR (l : Lk) (d : Dk) : Bool × Lk × Dk :=
  bif l.at_ == 0 || l.at_ == 2 then
    (false, { l with x := (d.load (nword l.me)).1, at_ := bif (d.load (nword l.me)).1 != 0 then 3 else bif l.at_ == 0 then 1 else 2 }, (d.load (nword l.me)).2)
  else bif l.at_ == 1 then
    bif (d.swap 1 (uw (iw (l.me + 1))) 0).1 then (true, { l with at_ := 0 }, (d.swap 1 (uw (iw (l.me + 1))) 0).2) else (false, { l with at_ := 2 }, (d.swap 1 (uw (iw (l.me + 1))) 0).2)
  else (true, { l with at_ := 0 }, d.store (iw (nword (iw (iw l.x - 1)) + 1)) 0)
def Lk.rel (l : Lk) (d : Dk) : Bool × Lk × Dk :=
  bif l.kd == 2 then (true, l, d.store 2 (uw (l.x + 1)))
  else bif l.kd == 3 then (true, { l with x := iw l.y }, d.store (iw (2 + l.x)) 0)
  else bif l.kd == 4 then l.nodeR d
  else bif l.kd == 5 then (true, l, d.store (iw (1 + l.me)) 0)
  else bif l.kd == 6 then (true, l, d.store (iw (2 + iw (2 * l.me))) 0)
  else (true, l, d.store 1 0)
def Lk.beg (l : Lk) (d : Dk) : Bool × Lk × Dk :=
  bif l.kd == 5 then bif decide (1 < l.all) then (false, { l with at_ := 0, x := 1 }, d) else (true, { l with at_ := 0, x := 1 }, d.point)
  else (false, { l with at_ := 0 }, d)

/-- a call on its way -/
inductive Tp where
  | acq
  | rel
  | shr (by_ saw : Int) (known : Bool)
  | tch (c : Int) (known : Bool)
/-- a thread: the machine's seat, and the lock's -/
structure Th where
  task : Option Tp
  ready : Bool
  last : Int
  ak : Int
  av : Int
  lk : Lk
  alone : Bool
  shares : Bool
structure Mc where
  kd : Int
  words : List Int
  log : List Ac
  calls : List Cal
  ths : List Th
  moves : Int

structure Ts where
  over : Bool
  task : Tp
  lk : Lk
  alone : Bool
  shares : Bool
  d : Dk
def Ts.ready (s : Ts) : Ts :=
  match s.task with
  | .acq => { s with over := (s.lk.beg s.d).1, lk := (s.lk.beg s.d).2.1, alone := (s.lk.beg s.d).1, d := (s.lk.beg s.d).2.2 }
  | _ => { s with over := false }
def Ts.step (s : Ts) : Ts :=
  match s.task with
  | .acq => { s with over := (s.lk.acq s.d).1, lk := (s.lk.acq s.d).2.1, alone := (s.lk.acq s.d).1, d := (s.lk.acq s.d).2.2 }
  | .rel => { s with over := (s.lk.rel s.d).1, lk := (s.lk.rel s.d).2.1, alone := !(s.lk.rel s.d).1, d := (s.lk.rel s.d).2.2 }
  | .shr b w k =>
    bif !k then { s with over := false, task := .shr b (iw (s.d.load 1).1) (decide (b < 0) || decide (0 ≤ iw (s.d.load 1).1)), d := (s.d.load 1).2 }
    else bif (s.d.swap 1 (uw w) (uw (iw (w + b)))).1 then { s with over := true, task := .shr b w false, shares := decide (0 < b), d := bif decide (0 < b) then (s.d.swap 1 (uw w) (uw (iw (w + b)))).2.point else (s.d.swap 1 (uw w) (uw (iw (w + b)))).2 }
    else { s with over := false, task := .shr b w false, d := (s.d.swap 1 (uw w) (uw (iw (w + b)))).2 }
  | .tch c k =>
    bif !k then { s with over := false, task := .tch (s.d.load 0).1 true, d := (s.d.load 0).2 }
    else { s with over := true, d := (s.d.store 0 (uw (c + 1))).answer 2 (iw c) }
def cal0 : Cal := ⟨0, 0, 0, 0, 0, 0, 0, 0, 0⟩
def Mc.step (m : Mc) (t : Nat) (h : Th) (p : Tp) : Mc :=
  let c := m.calls[h.last.toNat]?.getD cal0
  let s0 : Ts := ⟨false, p, h.lk, h.alone, h.shares, ⟨m.words, m.log, t, m.moves, false, c.pt, h.ak, h.av⟩⟩
  let s1 := bif h.ready then s0 else s0.ready
  let s2 := bif s1.over then s1 else s1.step
  { m with
    words := s2.d.words, log := s2.d.log, moves := m.moves + 1,
    calls := m.calls.set h.last.toNat (bif s2.over then { c with pt := s2.d.pt, fin := m.moves, ak := s2.d.ak, av := s2.d.av } else { c with pt := s2.d.pt }),
    ths := m.ths.set t ⟨bif s2.over then none else some s2.task, true, h.last, s2.d.ak, s2.d.av, s2.lk, s2.alone, s2.shares⟩ }
def Mc.make (m : Mc) (h : Th) (op : Int) : Option Tp :=
  bif op == 120 then bif h.alone || h.shares then none else some .acq
  else bif op == 121 then bif h.alone then some .rel else none
  else bif op == 122 then bif m.kd != 7 || (h.alone || h.shares) then none else some (.shr 1 0 false)
  else bif op == 123 then bif h.shares then some (.shr (-1) 0 false) else none
  else bif op == 124 then bif h.alone then some (.tch 0 false) else none
  else none
def Mc.begun (m : Mc) (t : Nat) (h : Th) (p : Tp) (v : Mo) : Mc :=
  { m with moves := m.moves + 1, calls := m.calls ++ [⟨v.th, v.op, v.arg, v.dat, m.moves, -1, -1, 0, 0⟩], ths := m.ths.set t { h with task := some p, ready := false, last := m.calls.length, ak := 1, av := 0 } }
def Mc.move (m : Mc) (v : Mo) : Bool × Mc :=
  bif decide (65536 ≤ m.moves) then (false, m)
  else bif decide (v.th < 0) then (false, { m with moves := m.moves + 1 })
  else
    match m.ths[v.th.toNat]? with
    | none => (false, { m with moves := m.moves + 1 })
    | some h =>
      match h.task with
      | some p => bif v.op == 0 then (true, m.step v.th.toNat h p) else (false, { m with moves := m.moves + 1 })
      | none =>
        bif v.op == 0 then (false, { m with moves := m.moves + 1 })
        else
          match m.make h v.op with
          | none => (false, { m with moves := m.moves + 1 })
          | some p => (true, m.begun v.th.toNat h p v)

def lkWords (kd t : Int) : List Int :=
  bif kd == 2 then List.replicate 3 0
  else bif kd == 3 then (List.replicate (3 + t.toNat) (0 : Int)).set 1 t
  else bif kd == 4 then List.replicate (2 + 2 * t.toNat) 0
  else bif kd == 5 then List.replicate (2 * t.toNat) 0
  else bif kd == 6 then List.replicate (1 + 2 * t.toNat) 0
  else List.replicate 2 0
def lkMay (kd t : Int) : Bool := decide (1 ≤ t) && decide (t ≤ 16) && (decide (1 ≤ kd) && decide (kd ≤ 7))
def lk0 (kd all : Int) (t : Nat) : Lk := ⟨kd, t, all, 0, bif kd == 3 then t else 0, 0⟩
def th0 (kd all : Int) (t : Nat) : Th := ⟨none, false, -1, 0, 0, lk0 kd all t, false, false⟩
def mc0 (kd all : Int) : Mc := ⟨kd, lkWords kd all, [], [], (List.range all.toNat).map (th0 kd all), 0⟩
def Mc.moves_ (m : Mc) : List Mo → Mc
  | [] => m
  | v :: l => (m.move v).2.moves_ l
end Go.Proofs.Ytjnmlgfkiebkgaa
