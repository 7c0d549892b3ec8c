/- PLAIN: members, tables of members, and how they are heard. No program in sight. -/
namespace Go.Proofs.Ytnlpgjdgiappcaa.Pl
set_option linter.unusedVariables false
set_option linter.unusedSimpArgs false

/-- A member: node, state, incarnation. -/
structure M where
  n : Int
  s : Int
  i : Int
deriving DecidableEq

abbrev Tab := Nat → Option M

def mayM (m : M) : Bool := decide (m.n < 64) && decide (m.s ≤ 2) && decide (0 ≤ m.i) && decide (m.i ≤ 1073741824)
def above (a b : M) : Bool := if a.i = b.i then decide (b.s < a.s) else decide (b.i < a.i)
def bump (self : Int) (m : M) : M := if m.n = self ∧ m.s ≠ 0 ∧ m.i < 1073741824 then ⟨m.n, 0, m.i + 1⟩ else m
def hear (self : Int) (f : Tab) (m : M) : Option M :=
  if mayM m = true then
    match f m.n.toNat with
    | some o => if above m o = true then some (bump self m) else none
    | none => some (bump self m)
  else none
def put (f : Tab) (m : M) : Tab := fun k => if k = m.n.toNat then some m else f k
def heard (self : Int) (f : Tab) (m : M) : Tab := match hear self f m with | some x => put f x | none => f
def merge (self : Int) : Tab → List M → Tab
  | f, [] => f
  | f, m :: l => merge self (heard self f m) l
def told (self : Int) : Tab → List M → List M
  | _, [] => []
  | f, m :: l => (hear self f m).toList ++ told self (heard self f m) l
def listT (f : Tab) : List M := (List.range 64).filterMap f
def thereT (f : Tab) : List Int := ((listT f).filter (fun m => decide (m.s ≠ 2))).map (·.n)
def posT (self : Int) (f : Tab) : Nat := ((thereT f).filter (fun n => decide (n < self))).length
def newT (self : Int) : Tab := fun k => if k = self.toNat then some ⟨self, 0, 0⟩ else none

/-- What a value of api.Member may be. -/
structure MOk (m : M) : Prop where
  n0 : 0 ≤ m.n
  n1 : m.n ≤ 65535
  s0 : 0 ≤ m.s
  s1 : m.s ≤ 255
  i0 : -9223372036854775808 ≤ m.i
  i1 : m.i ≤ 9223372036854775807

/-- What a table is: its own node, and members that may be, in their places. -/
structure TOk (z : Int) (f : Tab) : Prop where
  self0 : 0 ≤ z
  self1 : z < 64
  me : ∃ m, f z.toNat = some m
  at_ : ∀ k m, f k = some m → k < 64 ∧ m.n = (k : Int) ∧ 0 ≤ m.s ∧ m.s ≤ 2 ∧ 0 ≤ m.i ∧ m.i ≤ 1073741824

theorem mayM_iff {m : M} : mayM m = true ↔ m.n < 64 ∧ m.s ≤ 2 ∧ 0 ≤ m.i ∧ m.i ≤ 1073741824 := by
  simp [mayM, and_assoc]

theorem bump_n (self : Int) (m : M) : (bump self m).n = m.n := by unfold bump; split <;> rfl
theorem bump_i (self : Int) (m : M) : m.i ≤ (bump self m).i := by unfold bump; split <;> simp <;> omega

theorem newT_ok {self : Int} (h0 : 0 ≤ self) (h1 : self < 64) : TOk self (newT self) where
  self0 := h0
  self1 := h1
  me := ⟨⟨self, 0, 0⟩, by simp [newT]⟩
  at_ := fun k m h => by
    unfold newT at h
    split at h
    · rename_i hk
      injection h with h
      subst h
      simp
      omega
    · cases h

theorem hear_some {self : Int} {f : Tab} {m x : M} (h : hear self f m = some x) : mayM m = true ∧ x = bump self m := by
  unfold hear at h
  split at h
  · rename_i hm
    refine ⟨hm, ?_⟩
    split at h
    · split at h
      · injection h with h; exact h.symm
      · cases h
    · injection h with h; exact h.symm
  · cases h

theorem put_ok {self : Int} {f : Tab} {m x : M} (hf : TOk self f) (hm : MOk m) (h : hear self f m = some x) : TOk self (put f x) := by
  obtain ⟨hmay, rfl⟩ := hear_some h
  rw [mayM_iff] at hmay
  refine ⟨hf.self0, hf.self1, ?_, ?_⟩
  · unfold put
    split
    · exact ⟨_, rfl⟩
    · exact hf.me
  · intro k y hy
    unfold put at hy
    split at hy
    · rename_i hk
      injection hy with hy
      subst hy
      have := hm.n0
      have := hm.s0
      rw [bump_n] at hk ⊢
      unfold bump
      split <;> (try simp only) <;> omega
    · exact hf.at_ k y hy

theorem heard_ok {self : Int} {f : Tab} {m : M} (hf : TOk self f) (hm : MOk m) : TOk self (heard self f m) := by
  unfold heard
  split
  · rename_i x hx; exact put_ok hf hm hx
  · exact hf

theorem merge_ok {self : Int} (l : List M) : ∀ {f : Tab}, TOk self f → (∀ m ∈ l, MOk m) → TOk self (merge self f l) := by
  induction l with
  | nil => intro f hf _; exact hf
  | cons m l ih =>
    intro f hf hl
    exact ih (heard_ok hf (hl m (by simp))) (fun x hx => hl x (by simp [hx]))

theorem merge_append (self : Int) (a : List M) : ∀ (f : Tab) (b : List M), merge self f (a ++ b) = merge self (merge self f a) b := by
  induction a with
  | nil => intro f b; rfl
  | cons m a ih => intro f b; exact ih _ b

theorem told_append (self : Int) (a : List M) : ∀ (f : Tab) (b : List M), told self f (a ++ b) = told self f a ++ told self (merge self f a) b := by
  induction a with
  | nil => intro f b; rfl
  | cons m a ih => intro f b; simp [told, merge, ih, List.append_assoc]

end Go.Proofs.Ytnlpgjdgiappcaa.Pl
