/- PLAIN: what reading a pattern leaves of a text; how many states it becomes. -/
import Derived.Test.YtnidjfmbbfoheaaRxC
namespace Go.Proofs.Ytnidjfmbbfoheaa.Rx
set_option linter.unusedVariables false
set_option linter.unusedSimpArgs false

/-- r is what is left of s, behind a byte at least. -/
def Left (s r : List Nat) : Prop := r.length < s.length ∧ ∀ x ∈ r, x ∈ s
def LeftE (s r : List Nat) : Prop := r.length ≤ s.length ∧ ∀ x ∈ r, x ∈ s
theorem Left.e {s r : List Nat} (h : Left s r) : LeftE s r := ⟨by have := h.1; omega, h.2⟩
theorem LeftE.refl (s : List Nat) : LeftE s s := ⟨Nat.le_refl _, fun _ h => h⟩
theorem LeftE.trans {s r t : List Nat} (h : LeftE s r) (k : LeftE r t) : LeftE s t := ⟨Nat.le_trans k.1 h.1, fun x hx => h.2 x (k.2 x hx)⟩
theorem Left.then_ {s r t : List Nat} (h : Left s r) (k : LeftE r t) : Left s t := ⟨by have := h.1; have := k.1; omega, fun x hx => h.2 x (k.2 x hx)⟩
theorem LeftE.then_ {s r t : List Nat} (h : LeftE s r) (k : Left r t) : Left s t := ⟨by have := h.1; have := k.1; omega, fun x hx => h.2 x (k.2 x hx)⟩
theorem left_tail {s : List Nat} (h : s ≠ []) : Left s s.tail := by
  cases s with
  | nil => exact absurd rfl h
  | cons c r => exact ⟨by simp, fun x hx => List.mem_cons_of_mem _ hx⟩
theorem head_ne {s : List Nat} {k : Nat} (h : s.head? = some k) : s ≠ [] := fun e => by rw [e] at h; cases h
theorem head_cons {s : List Nat} {k : Nat} (h : s.head? = some k) : s = k :: s.tail := by
  cases s with
  | nil => cases h
  | cons c r => simp at h; subst h; rfl
theorem memb_left {s r : List Nat} {c : Nat} (h : memb s = some (c, r)) : Left s r ∧ c ∈ s := by
  cases s with
  | nil => cases h
  | cons d t =>
    have em : memb (d :: t) = if d = 93 then none else if d = 92 then (match t with | [] => none | e :: r' => some (e, r')) else some (d, t) := rfl
    rw [em] at h
    split at h
    · cases h
    · split at h
      · cases t with
        | nil => cases h
        | cons x u =>
          injection h with h
          injection h with e1 e2
          subst e1 e2
          exact ⟨⟨by simp; omega, fun y hy => by simp [hy]⟩, by simp⟩
      · injection h with h
        injection h with e1 e2
        subst e1 e2
        exact ⟨⟨by simp, fun y hy => by simp [hy]⟩, by simp⟩
theorem noSet_len : noSet.length = 256 := List.length_replicate
theorem allSet_len : allSet.length = 256 := List.length_replicate
theorem single_len (c : Nat) : (single c).length = 256 := by unfold single; rw [List.length_set]; exact noSet_len
theorem fillS_len (x : List Bool) (lo n : Nat) : (fillS x lo n).length = x.length := by
  unfold fillS
  induction n with
  | zero => rfl
  | succ n ih => rw [List.range_succ, List.foldl_append]; simp [ih]
theorem fillS_succ (x : List Bool) (lo n : Nat) : fillS x lo (n + 1) = (fillS x lo n).set (lo + n) true := by
  unfold fillS
  rw [List.range_succ, List.foldl_append]
  rfl
theorem rng_ne {s : List Nat} (h : rng s = true) : ∃ a b t, s = a :: b :: t ∧ a = 45 ∧ b ≠ 93 := by
  match s, h with
  | a :: b :: t, h => simp [rng] at h; exact ⟨a, b, t, rfl, h.1, h.2⟩
theorem setGo_succ (m : Nat) (x : List Bool) (S : List Nat) : setGo (m + 1) x S = if S.head? = some 93 then some (x, S.tail) else
    match memb S with
    | none => none
    | some (lo, s1) =>
      if rng s1 = true then
        match memb s1.tail with
        | none => none
        | some (hi, s2) => if hi < lo then none else setGo m (fillS x lo (hi + 1 - lo)) s2
      else setGo m (fillS x lo 1) s1 := rfl
theorem setGo_left (n : Nat) : ∀ x s y r, setGo n x s = some (y, r) → Left s r ∧ y.length = x.length := by
  induction n with
  | zero => intro x s y r h; cases h
  | succ n ih =>
    intro x s y r h
    unfold setGo at h
    split at h
    · rename_i hh
      simp only [Option.some.injEq, Prod.mk.injEq] at h
      obtain ⟨rfl, rfl⟩ := h
      exact ⟨left_tail (head_ne hh), rfl⟩
    · split at h
      · cases h
      · rename_i lo s1 hm
        have h1 := (memb_left hm).1
        split at h
        · rename_i hr
          obtain ⟨a, b, t, rfl, _, _⟩ := rng_ne hr
          split at h
          · cases h
          · rename_i hi s2 hm2
            have h2 := (memb_left hm2).1
            split at h
            · cases h
            · obtain ⟨h3, h4⟩ := ih _ _ _ _ h
              exact ⟨h1.then_ ((left_tail (by simp)).e.trans (h2.e.trans h3.e)), by rw [h4, fillS_len]⟩
        · obtain ⟨h3, h4⟩ := ih _ _ _ _ h
          exact ⟨h1.then_ h3.e, by rw [h4, fillS_len]⟩
theorem setNot_len (x : List Bool) : (setNot x).length = x.length := by simp [setNot]
theorem setP_left {s r : List Nat} {x : List Bool} (h : setP s = some (x, r)) : Left s r ∧ x.length = 256 := by
  unfold setP at h
  split at h
  · rename_i h94
    split at h
    · cases h
    · obtain ⟨q, hq, he⟩ := Option.map_eq_some_iff.1 h
      obtain ⟨h1, h2⟩ := setGo_left _ _ _ _ _ hq
      simp only [Prod.mk.injEq] at he
      obtain ⟨rfl, rfl⟩ := he
      exact ⟨(left_tail (head_ne h94)).then_ h1.e, by rw [setNot_len, h2]; exact noSet_len⟩
  · split at h
    · cases h
    · obtain ⟨h1, h2⟩ := setGo_left _ _ _ _ _ h
      exact ⟨h1, by rw [h2]; exact noSet_len⟩

/-! ### states -/
/-- How many states a pattern becomes. -/
def cnt : Re → Nat
  | .set _ => 2
  | .nil => 1
  | .cat a b => cnt a + cnt b
  | .alt a b => cnt a + cnt b + 2
  | .star a => cnt a + 2
  | .plus a => cnt a + 1
  | .opt a => cnt a + 2
  | .junk a => cnt a + 1
theorem gen_len (r : Re) : ∀ st, (gen r st).2.length = st.length + cnt r := by
  induction r with
  | set x => intro st; simp [gen, cnt]
  | nil => intro st; simp [gen, cnt]
  | cat a b iha ihb => intro st; simp only [gen, nextAt_length, ihb, iha, cnt]; omega
  | alt a b iha ihb => intro st; simp only [gen, List.length_append, nextAt_length, ihb, iha, cnt, List.length_singleton]; omega
  | star a ih => intro st; simp only [gen, List.length_append, nextAt_length, otherAt_length, ih, cnt, List.length_singleton]; omega
  | plus a ih => intro st; simp only [gen, List.length_append, nextAt_length, otherAt_length, ih, cnt, List.length_singleton]; omega
  | opt a ih => intro st; simp only [gen, List.length_append, nextAt_length, otherAt_length, ih, cnt, List.length_singleton]; omega
  | junk a ih => intro st; simp only [gen, List.length_append, ih, cnt, List.length_singleton]; omega
theorem repsA_left (a : Re) (s : List Nat) : LeftE s (repsA a s).2 ∧ (Sets a → Sets (repsA a s).1) ∧ cnt (repsA a s).1 + 2 * (repsA a s).2.length ≤ cnt a + 2 * s.length + 1 := by
  induction s generalizing a with
  | nil => exact ⟨.refl _, fun h => h, by simp [repsA, cnt]⟩
  | cons c r ih =>
    unfold repsA
    have ht : LeftE (c :: r) r := ⟨by simp, fun x hx => List.mem_cons_of_mem _ hx⟩
    split
    · obtain ⟨h1, h2, h3⟩ := ih (.star a)
      exact ⟨ht.trans h1, h2, by simp only [cnt] at h3; simp only [List.length_cons]; omega⟩
    · split
      · obtain ⟨h1, h2, h3⟩ := ih (.plus a)
        exact ⟨ht.trans h1, h2, by simp only [cnt] at h3; simp only [List.length_cons]; omega⟩
      · split
        · obtain ⟨h1, h2, h3⟩ := ih (.opt a)
          exact ⟨ht.trans h1, h2, by simp only [cnt] at h3; simp only [List.length_cons]; omega⟩
        · exact ⟨.refl _, fun h => h, by simp only [cnt]; omega⟩
/-- What is left, what sets are good, how many states: of each part of the grammar. -/
theorem read_left (n : Nat) :
    (∀ s r s', patA n s = some (r, s') → LeftE s s' ∧ Sets r ∧ cnt r + 4 * s'.length ≤ 4 * s.length + 1) ∧
    (∀ o s r s', barsA n o s = some (r, s') → LeftE s s' ∧ (Sets o → Sets r) ∧ cnt r + 4 * s'.length ≤ cnt o + 4 * s.length) ∧
    (∀ o s r s', rowA n o s = some (r, s') → LeftE s s' ∧ (Sets o → Sets r) ∧ cnt r + 4 * s'.length ≤ cnt o + 4 * s.length) ∧
    (∀ s r s', partA n s = some (r, s') → Left s s' ∧ Sets r ∧ cnt r + 4 * s'.length + 1 ≤ 4 * s.length) ∧
    (∀ s r s', atomA n s = some (r, s') → Left s s' ∧ Sets r ∧ cnt r + 4 * s'.length + 2 ≤ 4 * s.length) := by
  induction n with
  | zero => exact ⟨fun _ _ _ h => (by cases h), fun _ _ _ _ h => (by cases h), fun _ _ _ _ h => (by cases h), fun _ _ _ h => (by cases h), fun _ _ _ h => (by cases h)⟩
  | succ n ih =>
    obtain ⟨ih1, ih2, ih3, ih4, ih5⟩ := ih
    refine ⟨fun s r s' h => ?_, fun o s r s' h => ?_, fun o s r s' h => ?_, fun s r s' h => ?_, fun s r s' h => ?_⟩
    · unfold patA at h
      split at h
      · cases h
      · rename_i o s1 h1
        obtain ⟨a1, a2, a3⟩ := ih3 _ _ _ _ h1
        obtain ⟨b1, b2, b3⟩ := ih2 _ _ _ _ h
        exact ⟨a1.trans b1, b2 (a2 trivial), by simp only [cnt] at a3; omega⟩
    · unfold barsA at h
      split at h
      · rename_i hh
        split at h
        · cases h
        · rename_i m s1 h1
          obtain ⟨a1, a2, a3⟩ := ih3 _ _ _ _ h1
          obtain ⟨b1, b2, b3⟩ := ih2 _ _ _ _ h
          have ht := left_tail (head_ne hh)
          exact ⟨ht.e.trans (a1.trans b1), fun ho => b2 ⟨ho, a2 trivial⟩, by simp only [cnt] at a3 b3; have := ht.1; omega⟩
      · simp only [Option.some.injEq, Prod.mk.injEq] at h
        obtain ⟨rfl, rfl⟩ := h
        exact ⟨.refl _, fun h => h, Nat.le_refl _⟩
    · unfold rowA at h
      split at h
      · simp only [Option.some.injEq, Prod.mk.injEq] at h
        obtain ⟨rfl, rfl⟩ := h
        exact ⟨.refl _, fun h => h, Nat.le_refl _⟩
      · split at h
        · cases h
        · rename_i p s1 h1
          obtain ⟨a1, a2, a3⟩ := ih4 _ _ _ h1
          obtain ⟨b1, b2, b3⟩ := ih3 _ _ _ _ h
          exact ⟨a1.e.trans b1, fun ho => b2 ⟨ho, a2⟩, by simp only [cnt] at b3; omega⟩
    · unfold partA at h
      split at h
      · cases h
      · rename_i a s1 h1
        obtain ⟨a1, a2, a3⟩ := ih5 _ _ _ h1
        obtain ⟨b1, b2, b3⟩ := repsA_left a s1
        simp only [Option.some.injEq] at h
        rw [h] at b1 b2 b3
        simp only at b1 b2 b3
        have := b1.1
        exact ⟨a1.then_ b1, b2 a2, by omega⟩
    · unfold atomA at h
      cases s with
      | nil => cases h
      | cons c t =>
        have ht : Left (c :: t) t := ⟨by simp, fun x hx => List.mem_cons_of_mem _ hx⟩
        simp only at h
        split at h
        · split at h
          · cases h
          · rename_i o s1 h1
            obtain ⟨a1, a2, a3⟩ := ih1 _ _ _ h1
            split at h
            · rename_i hh
              simp only [Option.some.injEq, Prod.mk.injEq] at h
              obtain ⟨rfl, rfl⟩ := h
              have h2 := left_tail (head_ne hh)
              exact ⟨ht.then_ (a1.trans h2.e), a2, by have := h2.1; simp only [List.length_cons]; omega⟩
            · cases h
        · split at h
          · obtain ⟨q, hq, he⟩ := Option.map_eq_some_iff.1 h
            obtain ⟨h1, h2⟩ := setP_left (show setP t = some (q.1, q.2) from hq)
            simp only [Prod.mk.injEq] at he
            obtain ⟨rfl, rfl⟩ := he
            exact ⟨ht.then_ h1.e, h2, by have := h1.1; simp only [cnt, List.length_cons]; omega⟩
          · split at h
            · simp only [Option.some.injEq, Prod.mk.injEq] at h
              obtain ⟨rfl, rfl⟩ := h
              exact ⟨ht, allSet_len, by simp only [cnt, List.length_cons]; omega⟩
            · split at h
              · cases t with
                | nil => cases h
                | cons d u =>
                  simp only [Option.some.injEq, Prod.mk.injEq] at h
                  obtain ⟨rfl, rfl⟩ := h
                  exact ⟨⟨by simp; omega, fun x hx => by simp [hx]⟩, single_len _, by simp only [cnt, List.length_cons]; omega⟩
              · split at h
                · cases h
                · simp only [Option.some.injEq, Prod.mk.injEq] at h
                  obtain ⟨rfl, rfl⟩ := h
                  exact ⟨ht, single_len _, by simp only [cnt, List.length_cons]; omega⟩
end Go.Proofs.Ytnidjfmbbfoheaa.Rx
