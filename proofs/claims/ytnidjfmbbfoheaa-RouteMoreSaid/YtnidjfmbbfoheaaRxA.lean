/- PLAIN: what a pattern is (a tree), how it is read, which states it becomes, which texts are like it. No program in sight. -/
namespace Go.Proofs.Ytnidjfmbbfoheaa.Rx
set_option linter.unusedVariables false
set_option linter.unusedSimpArgs false

/-- A pattern: 'junk': a state more that nothing leads to. -/
inductive Re where
  | set (x : List Bool)
  | nil
  | cat (a b : Re)
  | alt (a b : Re)
  | star (a : Re)
  | plus (a : Re)
  | opt (a : Re)
  | junk (a : Re)

/-! ### reading -/
def special : List Nat := [40, 41, 91, 93, 124, 42, 43, 63, 46, 92]
def noSet : List Bool := List.replicate 256 false
def allSet : List Bool := List.replicate 256 true
def single (c : Nat) : List Bool := noSet.set c true
/-- A byte of a set. -/
def memb : List Nat → Option (Nat × List Nat)
  | [] => none
  | c :: r => if c = 93 then none else if c = 92 then (match r with | [] => none | d :: r' => some (d, r')) else some (c, r)
def fillS (x : List Bool) (lo n : Nat) : List Bool := (List.range n).foldl (fun y k => y.set (lo + k) true) x
/-- Is a range ahead? -/
def rng : List Nat → Bool
  | a :: b :: _ => decide (a = 45) && decide (b ≠ 93)
  | _ => false
def setGo : Nat → List Bool → List Nat → Option (List Bool × List Nat)
  | 0, _, _ => none
  | n + 1, x, s =>
    if s.head? = some 93 then some (x, s.tail) else
    match memb s with
    | none => none
    | some (lo, s1) =>
      if rng s1 = true then
        match memb s1.tail with
        | none => none
        | some (hi, s2) => if hi < lo then none else setGo n (fillS x lo (hi + 1 - lo)) s2
      else setGo n (fillS x lo 1) s1
def setNot (x : List Bool) : List Bool := x.map (fun b => !b)
/-- A set, behind its bracket. -/
def setP (s : List Nat) : Option (List Bool × List Nat) :=
  if s.head? = some 94 then
    if s.tail.head? = some 93 then none else (setGo (s.length + 1) noSet s.tail).map (fun q => (setNot q.1, q.2))
  else if s.head? = some 93 then none else setGo (s.length + 1) noSet s
/-- How often a part may be. -/
def repsA : Re → List Nat → Re × List Nat
  | a, [] => (.junk a, [])
  | a, c :: r => if c = 42 then repsA (.star a) r else if c = 43 then repsA (.plus a) r else if c = 63 then repsA (.opt a) r else (.junk a, c :: r)
mutual
def patA : Nat → List Nat → Option (Re × List Nat)
  | 0, _ => none
  | n + 1, s => match rowA n .nil s with
    | none => none
    | some (o, s1) => barsA n o s1
def barsA : Nat → Re → List Nat → Option (Re × List Nat)
  | 0, _, _ => none
  | n + 1, o, s =>
    if s.head? = some 124 then
      match rowA n .nil s.tail with
      | none => none
      | some (m, s1) => barsA n (.alt o m) s1
    else some (o, s)
def rowA : Nat → Re → List Nat → Option (Re × List Nat)
  | 0, _, _ => none
  | n + 1, o, s =>
    if s = [] ∨ s.head? = some 124 ∨ s.head? = some 41 then some (o, s)
    else match partA n s with
      | none => none
      | some (p, s1) => rowA n (.cat o p) s1
def partA : Nat → List Nat → Option (Re × List Nat)
  | 0, _ => none
  | n + 1, s => match atomA n s with
    | none => none
    | some (a, s1) => some (repsA a s1)
def atomA : Nat → List Nat → Option (Re × List Nat)
  | 0, _ => none
  | n + 1, s => match s with
    | [] => none
    | c :: r =>
      if c = 40 then
        match patA n r with
        | none => none
        | some (o, s1) => if s1.head? = some 41 then some (o, s1.tail) else none
      else if c = 91 then (setP r).map (fun q => (.set q.1, q.2))
      else if c = 46 then some (.set allSet, r)
      else if c = 92 then (match r with | [] => none | d :: r' => some (.set (single d), r'))
      else if c ∈ special then none
      else some (.set (single c), r)
end
/-- A pattern, read to its end. -/
def readA (s : List Nat) : Option Re :=
  match patA (8 * s.length + 8) s with
  | some (r, s1) => if s1 = [] then some r else none
  | none => none

/-! ### states -/
structure St where
  set : Option (List Bool)
  nxt : Int
  oth : Int
structure Pc where
  a : Nat
  z : Nat
def free : St := ⟨none, -1, -1⟩
def nextAt (st : List St) (k : Nat) (v : Int) : List St := st.modify k (fun x => { x with nxt := v })
def otherAt (st : List St) (k : Nat) (v : Int) : List St := st.modify k (fun x => { x with oth := v })
/-- A pattern's states, behind those that are there. -/
def gen : Re → List St → Pc × List St
  | .set x, st => (⟨st.length + 1, st.length⟩, st ++ [free] ++ [⟨some x, st.length, -1⟩])
  | .nil, st => (⟨st.length, st.length⟩, st ++ [free])
  | .cat a b, st =>
    let p := gen a st
    let q := gen b p.2
    (⟨p.1.a, q.1.z⟩, nextAt q.2 p.1.z q.1.a)
  | .alt a b, st =>
    let p := gen a st
    let q := gen b p.2
    (⟨q.2.length + 1, q.2.length⟩, nextAt (nextAt (q.2 ++ [free]) p.1.z q.2.length) q.1.z q.2.length ++ [⟨none, p.1.a, q.1.a⟩])
  | .star a, st =>
    let p := gen a st
    (⟨p.2.length + 1, p.2.length⟩, otherAt (nextAt (p.2 ++ [free]) p.1.z p.1.a) p.1.z p.2.length ++ [⟨none, p.1.a, p.2.length⟩])
  | .plus a, st =>
    let p := gen a st
    (⟨p.1.a, p.2.length⟩, otherAt (nextAt (p.2 ++ [free]) p.1.z p.1.a) p.1.z p.2.length)
  | .opt a, st =>
    let p := gen a st
    (⟨p.2.length + 1, p.2.length⟩, nextAt (p.2 ++ [free]) p.1.z p.2.length ++ [⟨none, p.1.a, p.2.length⟩])
  | .junk a, st =>
    let p := gen a st
    (p.1, p.2 ++ [free])
/-- A pattern that was read: its states (the last one tells the end), where it begins. -/
structure Cm where
  st : List St
  a : Nat
def comp (r : Re) : Cm := let p := gen r []; ⟨p.2 ++ [⟨none, -1, (p.1.z : Int)⟩], p.1.a⟩
def compile (s : List Nat) : Option Cm := (readA s).map comp

/-! ### matching -/
def reach (st : List St) : Nat → Int → List Bool → List Bool
  | 0, _, x => x
  | n + 1, k, x =>
    if k < 0 ∨ x[k.toNat]? = some true then x
    else match st[k.toNat]? with
      | some q => match q.set with
        | none => reach st n q.oth (reach st n q.nxt (x.set k.toNat true))
        | some _ => x.set k.toNat true
      | none => x.set k.toNat true
def stepOne (c : Cm) (now : List Bool) (b : Nat) (x : List Bool) (k : Nat) : List Bool :=
  if now[k]? = some true then
    match c.st[k]? with
    | some q => match q.set with
      | some y => if y[b]? = some true then reach c.st c.st.length q.nxt x else x
      | none => x
    | none => x
  else x
def noneIn (c : Cm) : List Bool := List.replicate (c.st.length - 1) false
def stepAll (c : Cm) (now : List Bool) (b : Nat) : List Bool := (List.range (c.st.length - 1)).foldl (stepOne c now b) (noneIn c)
def endOf (c : Cm) : Int := match c.st[c.st.length - 1]? with | some q => q.oth | none => 0
def startIn (c : Cm) : List Bool := reach c.st c.st.length c.a (noneIn c)
def matchC (c : Cm) (t : List Nat) : Bool := decide ((t.foldl (stepAll c) (startIn c))[(endOf c).toNat]? = some true)
/-- Like: none: no pattern. -/
def like (s t : List Nat) : Option Bool := (compile s).map (fun c => matchC c t)
/- what 'awake' asks -/
example : like [91, 97, 45, 99, 93, 43, 92, 46, 91, 94, 120, 93] [99, 97, 98, 46, 121] = some true := by decide +kernel
example : like [97] [97, 98] = some false := by decide +kernel
example : like [42, 97] [97] = none := by decide +kernel
end Go.Proofs.Ytnidjfmbbfoheaa.Rx
