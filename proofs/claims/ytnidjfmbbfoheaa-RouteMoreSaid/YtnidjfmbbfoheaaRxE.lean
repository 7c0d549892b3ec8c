/- PLAIN: a pattern that is read, and what stands behind it. -/
import Derived.Test.YtnidjfmbbfoheaaRxD
namespace Go.Proofs.Ytnidjfmbbfoheaa.Rx
set_option linter.unusedVariables false
set_option linter.unusedSimpArgs false

theorem memb_cons (a : Nat) (r : List Nat) : memb (a :: r) = if a = 93 then none else if a = 92 then (match r with | [] => none | d :: r' => some (d, r')) else some (a, r) := rfl
theorem memb_ext {s s' : List Nat} {c : Nat} (h : memb s = some (c, s')) (t : List Nat) : memb (s ++ t) = some (c, s' ++ t) := by
  cases s with
  | nil => simp [memb] at h
  | cons a r =>
    simp only [List.cons_append]
    rw [memb_cons] at h ⊢
    by_cases h1 : a = 93
    · rw [if_pos h1] at h; cases h
    · rw [if_neg h1] at h ⊢
      by_cases h2 : a = 92
      · rw [if_pos h2] at h ⊢
        cases r with
        | nil => cases h
        | cons d r' => simp only [Option.some.injEq, Prod.mk.injEq] at h; obtain ⟨rfl, rfl⟩ := h; rfl
      · rw [if_neg h2] at h ⊢
        simp only [Option.some.injEq, Prod.mk.injEq] at h
        obtain ⟨rfl, rfl⟩ := h
        rfl
theorem setGo_nil (n : Nat) (x : List Bool) : setGo n x [] = none := by
  cases n with
  | zero => rfl
  | succ n => rw [setGo_succ]; simp [memb]
theorem setGo_dash (n : Nat) (x : List Bool) : setGo n x [45] = none := by
  cases n with
  | zero => rfl
  | succ n => rw [setGo_succ]; simp [memb, rng, setGo_nil]
theorem head_app {s t : List Nat} (h : s ≠ []) : (s ++ t).head? = s.head? ∧ (s ++ t).tail = s.tail ++ t := by
  cases s with
  | nil => exact absurd rfl h
  | cons a r => exact ⟨rfl, rfl⟩
theorem setGo_ext : ∀ (n : Nat) (x : List Bool) (s : List Nat) (y : List Bool) (s' : List Nat), setGo n x s = some (y, s') → ∀ (t : List Nat) (m : Nat), n ≤ m → setGo m x (s ++ t) = some (y, s' ++ t) := by
  intro n
  induction n with
  | zero => intro x s y s' h; cases h
  | succ n ih =>
    intro x s y s' h t m hm
    obtain ⟨m, rfl⟩ : ∃ k, m = k + 1 := ⟨m - 1, by omega⟩
    have hs : s ≠ [] := by rintro rfl; rw [setGo_nil] at h; cases h
    obtain ⟨e1, e2⟩ := head_app (t := t) hs
    rw [setGo_succ] at h ⊢
    rw [e1, e2]
    by_cases h93 : s.head? = some 93
    · rw [if_pos h93] at h ⊢
      simp only [Option.some.injEq, Prod.mk.injEq] at h
      obtain ⟨rfl, rfl⟩ := h
      rfl
    · rw [if_neg h93] at h ⊢
      cases hmb : memb s with
      | none => rw [hmb] at h; cases h
      | some q =>
        obtain ⟨lo, s1⟩ := q
        rw [memb_ext hmb t]
        rw [hmb] at h
        simp only at h ⊢
        have hr : rng s1 = true ∨ (rng s1 = false ∧ rng (s1 ++ t) = false) := by
          by_cases hr : rng s1 = true
          · exact .inl hr
          · right
            have hr' : rng s1 = false := by simpa using hr
            refine ⟨hr', ?_⟩
            rw [if_neg hr] at h
            match s1, h, hr' with
            | [], h, _ => rw [setGo_nil] at h; cases h
            | [a], h, _ =>
              by_cases ha : a = 45
              · subst ha; rw [setGo_dash] at h; cases h
              · cases t with
                | nil => rfl
                | cons b u => simp [rng, ha]
            | a :: b :: u, _, hr' => exact hr'
        rcases hr with hr | ⟨hr, hr2⟩
        · obtain ⟨a, b, u, rfl, ha, hb⟩ := rng_ne hr
          rw [if_pos hr] at h
          have hr3 : rng ((a :: b :: u) ++ t) = true := hr
          rw [if_pos hr3]
          simp only [List.cons_append, List.tail_cons] at h ⊢
          cases hm2 : memb (b :: u) with
          | none => rw [hm2] at h; cases h
          | some q2 =>
            obtain ⟨hi, s2⟩ := q2
            have := memb_ext hm2 t
            rw [List.cons_append] at this
            rw [this]
            rw [hm2] at h
            simp only at h ⊢
            by_cases hlt : hi < lo
            · rw [if_pos hlt] at h; cases h
            · rw [if_neg hlt] at h ⊢
              exact ih _ _ _ _ h t m (by omega)
        · rw [if_neg (by rw [hr]; simp)] at h
          rw [if_neg (by rw [hr2]; simp)]
          exact ih _ _ _ _ h t m (by omega)
theorem setP_ext {s s' : List Nat} {x : List Bool} (h : setP s = some (x, s')) (t : List Nat) : setP (s ++ t) = some (x, s' ++ t) := by
  have hs : s ≠ [] := by rintro rfl; simp [setP, setGo_nil] at h
  obtain ⟨e1, e2⟩ := head_app (t := t) hs
  have hl : s.length + 1 ≤ (s ++ t).length + 1 := by simp
  unfold setP at h ⊢
  rw [e1, e2]
  by_cases h94 : s.head? = some 94
  · rw [if_pos h94] at h ⊢
    have hs2 : s.tail ≠ [] := by intro e; rw [e] at h; simp [setGo_nil] at h
    obtain ⟨e3, e4⟩ := head_app (t := t) hs2
    rw [e3]
    by_cases h93 : s.tail.head? = some 93
    · rw [if_pos h93] at h; cases h
    · rw [if_neg h93] at h ⊢
      rw [Option.map_eq_some_iff] at h ⊢
      obtain ⟨q, h1, h2⟩ := h
      simp only [Prod.mk.injEq] at h2
      obtain ⟨rfl, rfl⟩ := h2
      exact ⟨(q.1, q.2 ++ t), setGo_ext _ _ _ _ _ h1 t _ hl, rfl⟩
  · rw [if_neg h94] at h ⊢
    by_cases h93 : s.head? = some 93
    · rw [if_pos h93] at h; cases h
    · rw [if_neg h93] at h ⊢
      exact setGo_ext _ _ _ _ _ h t _ hl
/-- What may stand behind a part, a row. -/
def Beh (s' t : List Nat) : Prop := s' ≠ [] ∨ t = [] ∨ t.head? = some 41 ∨ t.head? = some 124
/-- .. behind a pattern. -/
def Beh2 (s' t : List Nat) : Prop := s' ≠ [] ∨ t = [] ∨ t.head? = some 41
theorem reps_ext {s s' : List Nat} {a r : Re} (h : repsA a s = (r, s')) {t : List Nat} (ht : Beh s' t) : repsA a (s ++ t) = (r, s' ++ t) := by
  induction s generalizing a with
  | nil =>
    simp only [repsA, Prod.mk.injEq] at h
    obtain ⟨rfl, rfl⟩ := h
    cases t with
    | nil => rfl
    | cons c u =>
      have hc : c = 41 ∨ c = 124 := by
        rcases ht with ht | ht | ht | ht
        · exact absurd rfl ht
        · cases ht
        · left; simpa using ht
        · right; simpa using ht
      simp only [List.nil_append]
      unfold repsA
      rcases hc with rfl | rfl <;> simp
  | cons c u ih =>
    simp only [List.cons_append]
    unfold repsA at h ⊢
    by_cases h1 : c = 42
    · rw [if_pos h1] at h ⊢; exact ih h
    · rw [if_neg h1] at h ⊢
      by_cases h2 : c = 43
      · rw [if_pos h2] at h ⊢; exact ih h
      · rw [if_neg h2] at h ⊢
        by_cases h3 : c = 63
        · rw [if_pos h3] at h ⊢; exact ih h
        · rw [if_neg h3] at h ⊢
          simp only [Prod.mk.injEq] at h
          obtain ⟨rfl, rfl⟩ := h
          rfl
theorem beh_of {s1 s' t : List Nat} (h : Beh2 s' t) (hl : LeftE s1 s') : Beh s1 t := by
  rcases h with h | h | h
  · refine .inl ?_
    rintro rfl
    have := hl.1
    simp only [List.length_nil, Nat.le_zero_eq, List.length_eq_zero_iff] at this
    exact h this
  · exact .inr (.inl h)
  · exact .inr (.inr (.inl h))
theorem beh_of2 {s1 s' t : List Nat} (h : Beh s' t) (hl : LeftE s1 s') : Beh s1 t := by
  rcases h with h | h
  · refine .inl ?_
    rintro rfl
    have := hl.1
    simp only [List.length_nil, Nat.le_zero_eq, List.length_eq_zero_iff] at this
    exact h this
  · exact .inr h
end Go.Proofs.Ytnidjfmbbfoheaa.Rx
