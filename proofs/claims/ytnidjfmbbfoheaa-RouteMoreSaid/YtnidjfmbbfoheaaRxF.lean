/- PLAIN: a pattern that is read, and what stands behind it: the grammar's parts. -/
import Derived.Test.YtnidjfmbbfoheaaRxE
namespace Go.Proofs.Ytnidjfmbbfoheaa.Rx
set_option linter.unusedVariables false
set_option linter.unusedSimpArgs false

theorem patA_s (n : Nat) (s : List Nat) : patA (n + 1) s = match rowA n .nil s with
    | none => none
    | some (o, s1) => barsA n o s1 := by
  conv => lhs; unfold patA
  cases rowA n .nil s <;> rfl
theorem barsA_s (n : Nat) (o : Re) (s : List Nat) : barsA (n + 1) o s = if s.head? = some 124 then
      match rowA n .nil s.tail with
      | none => none
      | some (m, s1) => barsA n (.alt o m) s1
    else some (o, s) := by
  conv => lhs; unfold barsA
  split <;> rfl
theorem rowA_s (m : Nat) (o : Re) (S : List Nat) : rowA (m + 1) o S = if S = [] ∨ S.head? = some 124 ∨ S.head? = some 41 then some (o, S) else
    match partA m S with
    | none => none
    | some (p, s1) => rowA m (.cat o p) s1 := by
  conv => lhs; unfold rowA
  split <;> rfl
theorem partA_s (n : Nat) (s : List Nat) : partA (n + 1) s = match atomA n s with
    | none => none
    | some (a, s1) => some (repsA a s1) := by
  conv => lhs; unfold partA
  cases atomA n s <;> rfl
theorem atomA_s (n c : Nat) (r : List Nat) : atomA (n + 1) (c :: r) = 
      if c = 40 then
        match patA n r with
        | none => none
        | some (o, s1) => if s1.head? = some 41 then some (o, s1.tail) else none
      else if c = 91 then (setP r).map (fun q => (.set q.1, q.2))
      else if c = 46 then some (.set allSet, r)
      else if c = 92 then (match r with | [] => none | d :: r' => some (.set (single d), r'))
      else if c ∈ special then none
      else some (.set (single c), r) := by
  conv => lhs; unfold atomA
  rfl
theorem atomA_nil (n : Nat) : atomA n [] = none := by cases n <;> rfl
theorem left_nil {s' : List Nat} (h : LeftE [] s') : s' = [] := by
  have := h.1
  simpa using this
theorem bars_left {n : Nat} {o r : Re} {s s' : List Nat} (h : barsA n o s = some (r, s')) : LeftE s s' := ((read_left n).2.1 _ _ _ _ h).1
theorem row_left {n : Nat} {o r : Re} {s s' : List Nat} (h : rowA n o s = some (r, s')) : LeftE s s' := ((read_left n).2.2.1 _ _ _ _ h).1
/-- What is read, is read so with something behind it, too. -/
theorem ext_all : ∀ n : Nat,
    (∀ s r s', patA n s = some (r, s') → ∀ t, Beh2 s' t → ∀ m, n ≤ m → patA m (s ++ t) = some (r, s' ++ t)) ∧
    (∀ o s r s', barsA n o s = some (r, s') → ∀ t, Beh2 s' t → ∀ m, n ≤ m → barsA m o (s ++ t) = some (r, s' ++ t)) ∧
    (∀ o s r s', rowA n o s = some (r, s') → ∀ t, Beh s' t → ∀ m, n ≤ m → rowA m o (s ++ t) = some (r, s' ++ t)) ∧
    (∀ s r s', partA n s = some (r, s') → ∀ t, Beh s' t → ∀ m, n ≤ m → partA m (s ++ t) = some (r, s' ++ t)) ∧
    (∀ s r s', atomA n s = some (r, s') → ∀ t, ∀ m, n ≤ m → atomA m (s ++ t) = some (r, s' ++ t)) := by
  intro n
  induction n with
  | zero => exact ⟨fun _ _ _ h => (by cases h), fun _ _ _ _ h => (by cases h), fun _ _ _ _ h => (by cases h), fun _ _ _ h => (by cases h), fun _ _ _ h => (by cases h)⟩
  | succ n ih =>
    obtain ⟨ih1, ih2, ih3, ih4, ih5⟩ := ih
    refine ⟨?_, ?_, ?_, ?_, ?_⟩
    · intro s r s' h t ht m hm
      obtain ⟨m, rfl⟩ : ∃ k, m = k + 1 := ⟨m - 1, by omega⟩
      rw [patA_s] at h ⊢
      cases h1 : rowA n .nil s with
      | none => rw [h1] at h; cases h
      | some q =>
        obtain ⟨o, s1⟩ := q
        rw [h1] at h
        simp only at h
        rw [ih3 _ _ _ _ h1 t (beh_of ht (bars_left h)) m (by omega)]
        exact ih2 _ _ _ _ h t ht m (by omega)
    · intro o s r s' h t ht m hm
      obtain ⟨m, rfl⟩ : ∃ k, m = k + 1 := ⟨m - 1, by omega⟩
      rw [barsA_s] at h ⊢
      by_cases hb : s.head? = some 124
      · have hs := head_ne hb
        obtain ⟨e1, e2⟩ := head_app (t := t) hs
        rw [if_pos hb] at h
        rw [if_pos (by rw [e1]; exact hb), e2]
        cases h1 : rowA n .nil s.tail with
        | none => rw [h1] at h; cases h
        | some q =>
          obtain ⟨mm, s1⟩ := q
          rw [h1] at h
          simp only at h
          rw [ih3 _ _ _ _ h1 t (beh_of ht (bars_left h)) m (by omega)]
          exact ih2 _ _ _ _ h t ht m (by omega)
      · rw [if_neg hb] at h
        simp only [Option.some.injEq, Prod.mk.injEq] at h
        obtain ⟨rfl, rfl⟩ := h
        rw [if_neg ?_]
        by_cases hs : s = []
        · subst hs
          rcases ht with ht | ht | ht
          · exact absurd rfl ht
          · subst ht; simp
          · simp only [List.nil_append]; rw [ht]; simp
        · rw [(head_app (t := t) hs).1]; exact hb
    · intro o s r s' h t ht m hm
      obtain ⟨m, rfl⟩ : ∃ k, m = k + 1 := ⟨m - 1, by omega⟩
      rw [rowA_s] at h ⊢
      by_cases hs : s = []
      · rw [if_pos (.inl hs)] at h
        simp only [Option.some.injEq, Prod.mk.injEq] at h
        obtain ⟨rfl, rfl⟩ := h
        subst hs
        rw [if_pos ?_]
        simp only [List.nil_append]
        rcases ht with ht | ht | ht | ht
        · exact absurd rfl ht
        · exact .inl ht
        · exact .inr (.inr ht)
        · exact .inr (.inl ht)
      · obtain ⟨e1, e2⟩ := head_app (t := t) hs
        by_cases hb : s.head? = some 124 ∨ s.head? = some 41
        · rw [if_pos (.inr hb)] at h
          simp only [Option.some.injEq, Prod.mk.injEq] at h
          obtain ⟨rfl, rfl⟩ := h
          rw [if_pos (.inr (by rw [e1]; exact hb))]
        · rw [if_neg (by rintro (h | h); exact hs h; exact hb h)] at h
          rw [if_neg (by rw [e1]; rintro (h | h); exact hs (List.append_eq_nil_iff.1 h).1; exact hb h)]
          cases h1 : partA n s with
          | none => rw [h1] at h; cases h
          | some q =>
            obtain ⟨p, s1⟩ := q
            rw [h1] at h
            simp only at h
            rw [ih4 _ _ _ h1 t (beh_of2 ht (row_left h)) m (by omega)]
            exact ih3 _ _ _ _ h t ht m (by omega)
    · intro s r s' h t ht m hm
      obtain ⟨m, rfl⟩ : ∃ k, m = k + 1 := ⟨m - 1, by omega⟩
      rw [partA_s] at h ⊢
      cases h1 : atomA n s with
      | none => rw [h1] at h; cases h
      | some q =>
        obtain ⟨a, s1⟩ := q
        rw [h1] at h
        simp only [Option.some.injEq] at h
        rw [ih5 _ _ _ h1 t m (by omega)]
        simp only [Option.some.injEq]
        exact reps_ext h ht
    · intro s r s' h t m hm
      obtain ⟨m, rfl⟩ : ∃ k, m = k + 1 := ⟨m - 1, by omega⟩
      cases s with
      | nil => rw [atomA_nil] at h; cases h
      | cons c u =>
        rw [List.cons_append]
        rw [atomA_s] at h ⊢
        by_cases h40 : c = 40
        · rw [if_pos h40] at h ⊢
          cases h1 : patA n u with
          | none => rw [h1] at h; cases h
          | some q =>
            obtain ⟨o, s1⟩ := q
            rw [h1] at h
            simp only at h
            by_cases h41 : s1.head? = some 41
            · have hs := head_ne h41
              obtain ⟨e1, e2⟩ := head_app (t := t) hs
              rw [if_pos h41] at h
              simp only [Option.some.injEq, Prod.mk.injEq] at h
              obtain ⟨rfl, rfl⟩ := h
              rw [ih1 _ _ _ h1 t (.inl hs) m (by omega)]
              simp only
              rw [if_pos (by rw [e1]; exact h41), e2]
            · rw [if_neg h41] at h; cases h
        · rw [if_neg h40] at h ⊢
          by_cases h91 : c = 91
          · rw [if_pos h91] at h ⊢
            rw [Option.map_eq_some_iff] at h ⊢
            obtain ⟨q, h1, h2⟩ := h
            simp only [Prod.mk.injEq] at h2
            obtain ⟨rfl, rfl⟩ := h2
            exact ⟨(q.1, q.2 ++ t), setP_ext h1 t, rfl⟩
          · rw [if_neg h91] at h ⊢
            by_cases h46 : c = 46
            · rw [if_pos h46] at h ⊢
              simp only [Option.some.injEq, Prod.mk.injEq] at h
              obtain ⟨rfl, rfl⟩ := h
              rfl
            · rw [if_neg h46] at h ⊢
              by_cases h92 : c = 92
              · rw [if_pos h92] at h ⊢
                cases u with
                | nil => cases h
                | cons d u =>
                  simp only [Option.some.injEq, Prod.mk.injEq] at h
                  obtain ⟨rfl, rfl⟩ := h
                  rfl
              · rw [if_neg h92] at h ⊢
                by_cases hsp : c ∈ special
                · rw [if_pos hsp] at h; cases h
                · rw [if_neg hsp] at h ⊢
                  simp only [Option.some.injEq, Prod.mk.injEq] at h
                  obtain ⟨rfl, rfl⟩ := h
                  rfl
end Go.Proofs.Ytnidjfmbbfoheaa.Rx
