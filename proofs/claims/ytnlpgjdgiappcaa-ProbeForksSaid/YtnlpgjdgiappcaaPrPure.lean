/- PLAIN: the document's probe, and what Ack and Watch make of it; what a Tick sends. No program in sight. -/
import Derived.Test.YtnlpgjdgiappcaaPbPure
namespace Go.Proofs.Ytnlpgjdgiappcaa.Pl
set_option linter.unusedVariables false
set_option linter.unusedSimpArgs false

/-- A node that is watched: its incarnation, and from when on. -/
structure Wt where
  n : Int
  i : Int
  f : Int
/-- The document's probe. -/
structure Rp where
  me : Int
  per : Int
  tmo : Int
  nxt : Int
  seq : Int
  op : Bool
  hlp : Bool
  nd : Int
  at_ : Int
  w : List Wt
def rnew (me per tmo : Int) : Rp := ⟨me, per, tmo, 0, 0, false, false, 0, 0, []⟩
def rack (r : Rp) (about seq : Int) : Bool × Rp := if r.op = true ∧ r.nd = about ∧ r.seq = seq then (true, { r with op := false }) else (false, r)
/-- One more that is watched, in its place; none: nothing changes. -/
def wgo (m : M) (now : Int) : List Wt → Bool → Option (List Wt)
  | [], done => some (if done = true then [] else [⟨m.n, m.i, now⟩])
  | x :: r, done => if x.n = m.n ∧ m.i ≤ x.i then none
    else (wgo m now r (done || decide (m.n ≤ x.n))).map ((if done = false ∧ m.n ≤ x.n then [⟨m.n, m.i, now⟩] else []) ++ (if x.n = m.n then [] else [x]) ++ ·)
def rwatch (r : Rp) (m : M) (now : Int) : Rp :=
  if m.s = 1 ∧ m.n < 64 ∧ m.n ≠ r.me ∧ may now 0 = true then
    match wgo m now r.w false with
    | none => r
    | some l => { r with w := l }
  else r
theorem wgo_len (m : M) (now : Int) : ∀ (l : List Wt) (done : Bool) (o : List Wt), wgo m now l done = some o → o.length ≤ l.length + 1 := by
  intro l
  suffices h : ∀ (done : Bool) (o : List Wt), wgo m now l done = some o → o.length ≤ l.length + (if done = true then 0 else 1) by
    intro done o ho
    have := h done o ho
    split at this <;> omega
  induction l with
  | nil =>
    intro done o h
    unfold wgo at h
    injection h with h
    subst h
    cases done <;> simp
  | cons x r ih =>
    intro done o h
    unfold wgo at h
    split at h
    · cases h
    · rw [Option.map_eq_some_iff] at h
      obtain ⟨o', h1, rfl⟩ := h
      have := ih _ _ h1
      have hif : (if x.n = m.n then ([] : List Wt) else [x]).length ≤ 1 := by split <;> simp
      simp only [List.length_append, List.length_cons]
      generalize (if x.n = m.n then ([] : List Wt) else [x]).length = k at *
      cases done with
      | true =>
        simp only [Bool.true_or, if_true] at this
        simp
        omega
      | false =>
        simp only [Bool.false_or, decide_eq_true_eq] at this
        by_cases g : m.n ≤ x.n
        · rw [if_pos g] at this
          simp [g]
          omega
        · rw [if_neg g] at this
          simp [g]
          omega
theorem rwatch_len (r : Rp) (m : M) (now : Int) : (rwatch r m now).w.length ≤ r.w.length + 1 := by
  unfold rwatch
  split
  · split
    · omega
    · rename_i l h
      exact wgo_len m now _ _ _ h
  · omega
end Go.Proofs.Ytnlpgjdgiappcaa.Pl
