/- PLAIN: patterns put together: bars, groups, stars. -/
import Derived.Test.YtnidjfmbbfoheaaRxF
namespace Go.Proofs.Ytnidjfmbbfoheaa.Rx
set_option linter.unusedVariables false
set_option linter.unusedSimpArgs false

theorem bars_acc : ∀ (n : Nat) (o : Re) (s : List Nat) (r : Re) (s' : List Nat), barsA n o s = some (r, s') → ∃ D : List Nat → Prop, ∀ o', ∃ r', barsA n o' s = some (r', s') ∧ ∀ t, Lang r' t ↔ Lang o' t ∨ D t := by
  intro n
  induction n with
  | zero => intro o s r s' h; cases h
  | succ n ih =>
    intro o s r s' h
    rw [barsA_s] at h
    by_cases hb : s.head? = some 124
    · rw [if_pos hb] at h
      cases h1 : rowA n .nil s.tail with
      | none => rw [h1] at h; cases h
      | some q =>
        obtain ⟨m, s1⟩ := q
        rw [h1] at h
        simp only at h
        obtain ⟨D, hD⟩ := ih _ _ _ _ h
        refine ⟨fun t => Lang m t ∨ D t, fun o' => ?_⟩
        obtain ⟨r', h2, h3⟩ := hD (.alt o' m)
        refine ⟨r', ?_, fun t => ?_⟩
        · rw [barsA_s, if_pos hb, h1]; exact h2
        · rw [h3 t]
          constructor
          · rintro (h | h)
            · cases h with
              | altl h => exact .inl h
              | altr h => exact .inr (.inl h)
            · exact .inr (.inr h)
          · rintro (h | h | h)
            · exact .inl (.altl h)
            · exact .inl (.altr h)
            · exact .inr h
    · rw [if_neg hb] at h
      simp only [Option.some.injEq, Prod.mk.injEq] at h
      obtain ⟨rfl, rfl⟩ := h
      refine ⟨fun _ => False, fun o' => ⟨o', ?_, fun t => by simp⟩⟩
      rw [barsA_s, if_neg hb]
theorem bars_then : ∀ (n : Nat) (o : Re) (s : List Nat) (r : Re), barsA n o s = some (r, []) → ∀ (q : List Nat) (m : Nat), ∃ j, m ≤ j ∧ barsA (n + m) o (s ++ 124 :: q) = barsA j r (124 :: q) := by
  intro n
  induction n with
  | zero => intro o s r h; cases h
  | succ n ih =>
    intro o s r h q m
    rw [barsA_s] at h
    by_cases hb : s.head? = some 124
    · rw [if_pos hb] at h
      have hs := head_ne hb
      obtain ⟨e1, e2⟩ := head_app (t := 124 :: q) hs
      cases h1 : rowA n .nil s.tail with
      | none => rw [h1] at h; cases h
      | some p =>
        obtain ⟨mm, s1⟩ := p
        rw [h1] at h
        simp only at h
        obtain ⟨j, hj, he⟩ := ih _ _ _ h q m
        refine ⟨j, hj, ?_⟩
        rw [show n + 1 + m = n + m + 1 by omega, barsA_s, if_pos (by rw [e1]; exact hb), e2, (ext_all n).2.2.1 _ _ _ _ h1 (124 :: q) (.inr (.inr (.inr rfl))) (n + m) (by omega)]
        exact he
    · rw [if_neg hb] at h
      simp only [Option.some.injEq, Prod.mk.injEq] at h
      obtain ⟨rfl, rfl⟩ := h
      exact ⟨n + 1 + m, by omega, rfl⟩
theorem read_is {s : List Nat} {r : Re} (h : readA s = some r) : patA (8 * s.length + 8) s = some (r, []) := by
  unfold readA at h
  split at h
  · rename_i r' s1 h1
    split at h
    · injection h with h; subst h; rename_i h2; rw [h1, h2]
    · cases h
  · cases h
theorem read_of {s : List Nat} {r : Re} (h : patA (8 * s.length + 8) s = some (r, [])) : readA s = some r := by
  unfold readA
  rw [h]
  rfl
/-- Two patterns with a bar between. -/
theorem read_or {p q : List Nat} {r1 r2 : Re} (h1 : readA p = some r1) (h2 : readA q = some r2) : ∃ r, readA (p ++ 124 :: q) = some r ∧ ∀ t, Lang r t ↔ Lang r1 t ∨ Lang r2 t := by
  have a1 := read_is h1
  have a2 := read_is h2
  rw [show 8 * p.length + 8 = (8 * p.length + 7) + 1 by omega, patA_s] at a1
  rw [show 8 * q.length + 8 = (8 * q.length + 7) + 1 by omega, patA_s] at a2
  cases b1 : rowA (8 * p.length + 7) .nil p with
  | none => rw [b1] at a1; cases a1
  | some x1 =>
    obtain ⟨o1, s1⟩ := x1
    rw [b1] at a1
    simp only at a1
    cases b2 : rowA (8 * q.length + 7) .nil q with
    | none => rw [b2] at a2; cases a2
    | some x2 =>
      obtain ⟨o2, s2⟩ := x2
      rw [b2] at a2
      simp only at a2
      obtain ⟨j, hj, he⟩ := bars_then _ _ _ _ a1 q (8 * q.length + 8)
      obtain ⟨j, rfl⟩ : ∃ k, j = k + 1 := ⟨j - 1, by omega⟩
      obtain ⟨D, hD⟩ := bars_acc _ _ _ _ _ a2
      obtain ⟨r, c1, c2⟩ := hD (.alt r1 o2)
      obtain ⟨r2', c3, c4⟩ := hD o2
      rw [a2] at c3
      simp only [Option.some.injEq, Prod.mk.injEq, and_true] at c3
      subst c3
      refine ⟨r, read_of ?_, fun t => ?_⟩
      · rw [show 8 * (p ++ 124 :: q).length + 8 = (8 * p.length + 7 + (8 * q.length + 8)) + 1 by simp; omega, patA_s]
        rw [(ext_all _).2.2.1 _ _ _ _ b1 (124 :: q) (.inr (.inr (.inr rfl))) _ (by omega)]
        simp only
        rw [he, barsA_s, if_pos (show (124 :: q).head? = some 124 from rfl)]
        simp only [List.tail_cons]
        have e1 := (ext_all _).2.2.1 _ _ _ _ b2 [] (.inr (.inl rfl)) j (by omega)
        rw [List.append_nil, List.append_nil] at e1
        rw [e1]
        simp only
        have e2 := (ext_all _).2.1 _ _ _ _ c1 [] (.inr (.inl rfl)) j (by omega)
        rw [List.append_nil, List.append_nil] at e2
        exact e2
      · rw [c2 t, c4 t]
        constructor
        · rintro (h | h)
          · cases h with
            | altl h => exact .inl h
            | altr h => exact .inr (.inl h)
          · exact .inr (.inr h)
        · rintro (h | h | h)
          · exact .inl (.altl h)
          · exact .inl (.altr h)
          · exact .inr h
/-- A group. -/
theorem part_group {p : List Nat} {r : Re} (h : readA p = some r) (t : List Nat) (m : Nat) (hm : 8 * p.length + 10 ≤ m) : partA m (40 :: (p ++ 41 :: t)) = some (repsA r t) := by
  obtain ⟨m, rfl⟩ : ∃ k, m = k + 1 + 1 := ⟨m - 2, by omega⟩
  rw [partA_s, atomA_s, if_pos rfl, (ext_all _).1 _ _ _ (read_is h) (41 :: t) (.inr (.inr rfl)) m (by omega)]
  simp
/-- What is no sign of how often. -/
theorem reps_no (r : Re) (c : Nat) (t : List Nat) (h1 : c ≠ 42) (h2 : c ≠ 43) (h3 : c ≠ 63) : repsA r (c :: t) = (.junk r, c :: t) := by
  unfold repsA
  rw [if_neg h1, if_neg h2, if_neg h3]
theorem read_row1 {s : List Nat} {a : Re} (h : partA (8 * s.length + 6) s = some (a, [])) (hs : s ≠ []) (hh : s.head? ≠ some 124 ∧ s.head? ≠ some 41) : readA s = some (.cat .nil a) := by
  refine read_of ?_
  rw [show 8 * s.length + 8 = 8 * s.length + 6 + 1 + 1 by omega, patA_s, rowA_s, if_neg (by rintro (h | h | h); exact hs h; exact hh.1 h; exact hh.2 h), h]
  simp only
  rw [show 8 * s.length + 6 = 8 * s.length + 5 + 1 by omega, rowA_s, if_pos (.inl rfl)]
  simp only
  rw [barsA_s, if_neg (by simp)]
theorem read_group {p : List Nat} {r : Re} (h : readA p = some r) (t : List Nat) (a : Re) (ht : repsA r t = (a, [])) : readA (40 :: (p ++ 41 :: t)) = some (.cat .nil a) := by
  refine read_row1 ?_ (by simp) ⟨by simp, by simp⟩
  rw [part_group h t _ (by simp; omega), ht]
theorem lang_cat_nil {a : Re} {t : List Nat} : Lang (.cat .nil a) t ↔ Lang a t := by
  constructor
  · intro h
    cases h with
    | cat h1 h2 => cases h1; simpa using h2
  · intro h
    have := Lang.cat .nil h
    simpa using this
theorem lang_junk {a : Re} {t : List Nat} : Lang (.junk a) t ↔ Lang a t := ⟨fun h => by cases h with | junk h => exact h, .junk⟩
/-- Two groups. -/
theorem read_both {p q : List Nat} {r1 r2 : Re} (h1 : readA p = some r1) (h2 : readA q = some r2) : readA (40 :: (p ++ 41 :: 40 :: (q ++ [41]))) = some (.cat (.cat .nil (.junk r1)) (.junk r2)) := by
  refine read_of ?_
  have hl : (40 :: (p ++ 41 :: 40 :: (q ++ [41]))).length = p.length + q.length + 4 := by simp; omega
  rw [hl, show 8 * (p.length + q.length + 4) + 8 = (8 * (p.length + q.length) + 37) + 1 + 1 + 1 by omega, patA_s, rowA_s, if_neg (by simp), part_group h1 _ _ (by omega), reps_no _ _ _ (by decide) (by decide) (by decide)]
  simp only
  rw [rowA_s, if_neg (by simp), part_group h2 _ _ (by omega)]
  simp only [repsA]
  rw [show 8 * (p.length + q.length) + 37 = 8 * (p.length + q.length) + 36 + 1 by omega, rowA_s, if_pos (.inl rfl)]
  simp only
  rw [barsA_s, if_neg (by simp)]
end Go.Proofs.Ytnidjfmbbfoheaa.Rx
