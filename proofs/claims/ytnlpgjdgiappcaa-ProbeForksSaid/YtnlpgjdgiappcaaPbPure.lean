/- PLAIN: a probe, and what its calls make of it. No program in sight. -/
import Derived.Test.YtnlpgjdgiappcaaMbPure
namespace Go.Proofs.Ytnlpgjdgiappcaa.Pl
set_option linter.unusedVariables false
set_option linter.unusedSimpArgs false

/-- A member that is watched (what is no longer watched keeps its numbers). -/
structure Wa where
  is : Bool
  i : Int
  f : Int
/-- A probe. -/
structure Pb where
  me : Int
  per : Int
  tmo : Int
  nxt : Int
  seq : Int
  op : Bool
  hlp : Bool
  nd : Int
  at_ : Int
  w : Nat → Wa
def pnew (me per tmo : Int) : Pb := ⟨me, per, tmo, 0, 0, false, false, 0, 0, fun _ => ⟨false, 0, 0⟩⟩
def may (t least : Int) : Bool := decide (least ≤ t) && decide (t ≤ 1099511627776)
/-- A packet to a node: to, kind, from, about, number. -/
structure Ou where
  to_ : Int
  k : Int
  fr : Int
  ab : Int
  sq : Int
deriving DecidableEq
def Pb.setW (p : Pb) (k : Nat) (x : Wa) : Pb := { p with w := fun j => if j = k then x else p.w j }
def drawn (l : List Int) (d : Int) : Option Int := l[(d % (l.length : Int)).toNat]?
def othersP (p : Pb) (f : Tab) (but : Int) : List Int := (thereT f).filter (fun n => decide (¬ (n = p.me ∨ n = but)))
/-- One of those that are watched. -/
def bury1 (now : Int) (x : Pb × Tab × List M) (n : Nat) : Pb × Tab × List M :=
  let (p, f, news) := x
  let w := p.w n
  if w.is then
    match f n with
    | none => (p.setW n ⟨false, w.i, w.f⟩, f, news)
    | some m =>
      if m.s ≠ 1 ∨ m.i ≠ w.i then (p.setW n ⟨false, w.i, w.f⟩, f, news)
      else if 3 * p.per ≤ now - w.f then (p.setW n ⟨false, w.i, w.f⟩, heard p.me f ⟨m.n, 2, m.i⟩, news ++ (hear p.me f ⟨m.n, 2, m.i⟩).toList)
      else x
  else x
def bury (now : Int) (p : Pb) (f : Tab) : Pb × Tab × List M := (List.range 64).foldl (bury1 now) (p, f, [])
def watch (p : Pb) (m : M) (now : Int) : Pb :=
  if m.s = 1 ∧ m.n < 64 ∧ m.n ≠ p.me ∧ may now 0 = true ∧ ((p.w m.n.toNat).is = false ∨ (p.w m.n.toNat).i < m.i) then p.setW m.n.toNat ⟨true, m.i, now⟩ else p
/-- What is due of an open question. -/
def late (now draw : Int) (p : Pb) (f : Tab) : Pb × Tab × List Ou × List M :=
  if p.op = false then (p, f, [], [])
  else if p.per ≤ now - p.at_ then
    match f p.nd.toNat with
    | none => ({ p with op := false }, f, [], [])
    | some m =>
      let f1 := heard p.me f ⟨m.n, 1, m.i⟩
      (watch { p with op := false } ((f1 p.nd.toNat).getD ⟨0, 0, 0⟩) now, f1, [], (hear p.me f ⟨m.n, 1, m.i⟩).toList)
  else if p.tmo ≤ now - p.at_ ∧ p.hlp = false then
    match drawn (othersP p f p.nd) draw with
    | some n => ({ p with hlp := true }, f, [⟨n, 2, p.me, p.nd, p.seq⟩], [])
    | none => ({ p with hlp := true }, f, [], [])
  else (p, f, [], [])
/-- Tick. -/
def tick (now draw : Int) (p : Pb) (f : Tab) : Pb × Tab × List Ou × List M :=
  if may now 0 = true then
    let (p1, f1, news) := bury now p f
    let (p2, f2, outs, more) := late now draw p1 f1
    if p2.op = true ∨ now < p2.nxt then (p2, f2, outs, news ++ more)
    else match drawn (othersP p2 f2 p2.me) draw with
      | some n => ({ p2 with seq := p2.seq + 1, op := true, hlp := false, nd := n, at_ := now, nxt := now + p2.per }, f2, outs ++ [⟨n, 0, p2.me, n, p2.seq + 1⟩], news ++ more)
      | none => (p2, f2, outs, news ++ more)
  else (p, f, [], [])
def asked (p : Pb) : Option (Int × Int) := if p.op then some (p.nd, p.seq) else none
def ack (p : Pb) (about seq : Int) : Bool × Pb := if p.op = true ∧ p.nd = about ∧ p.seq = seq then (true, { p with op := false }) else (false, p)

/-! ### awake, by this -/
def pa0 : Pb × Tab × List Ou × List M := tick 0 5 (pnew 0 10 3) (heard 0 (newT 0) ⟨1, 0, 0⟩)
def pa1 : Pb × Tab × List Ou × List M := tick 10 5 pa0.1 pa0.2.1
theorem pa0_outs : pa0.2.2.1 = [⟨1, 0, 0, 1, 1⟩] := by decide +kernel
theorem pa1_news : pa1.2.2.2 = [⟨1, 1, 0⟩] := by decide +kernel
end Go.Proofs.Ytnlpgjdgiappcaa.Pl
