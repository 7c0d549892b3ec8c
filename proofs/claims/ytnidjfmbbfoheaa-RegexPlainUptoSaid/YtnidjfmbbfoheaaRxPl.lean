/- PLAIN: a quotation, read as a pattern: it is like the text itself. -/
import Derived.Test.YtnidjfmbbfoheaaRxS
import Derived.Test.YtnidjfmbbfoheaaRxQ1
namespace Go.Proofs.Ytnidjfmbbfoheaa.Rx
set_option linter.unusedVariables false
set_option linter.unusedSimpArgs false

def lit (c : Nat) : Re := .junk (.set (single c))
def lits (o : Re) (s : List Nat) : Re := s.foldl (fun o c => .cat o (lit c)) o
theorem quote_cons (c : Nat) (r : List Nat) : quoteA (c :: r) = quo c ++ quoteA r := rfl
theorem quo_head (c : Nat) : ∃ d u, quo c = d :: u ∧ (d = 92 ∨ d ∉ special) := by
  unfold quo
  by_cases h : c ∈ special
  · rw [if_pos h]; exact ⟨92, [c], rfl, .inl rfl⟩
  · rw [if_neg h]; exact ⟨c, [], rfl, .inr h⟩
theorem quote_head (s : List Nat) : quoteA s = [] ∨ ∃ d u, quoteA s = d :: u ∧ d ≠ 124 ∧ d ≠ 41 ∧ d ≠ 42 ∧ d ≠ 43 ∧ d ≠ 63 := by
  cases s with
  | nil => exact .inl rfl
  | cons c r =>
    right
    obtain ⟨d, u, h1, h2⟩ := quo_head c
    rw [quote_cons, h1]
    refine ⟨d, u ++ quoteA r, rfl, ?_⟩
    rcases h2 with rfl | h2
    · decide
    · refine ⟨?_, ?_, ?_, ?_, ?_⟩ <;> (rintro rfl; exact h2 (by decide))
theorem reps_quote (a : Re) (s : List Nat) : repsA a (quoteA s) = (.junk a, quoteA s) := by
  rcases quote_head s with h | ⟨d, u, h, _, _, h1, h2, h3⟩
  · rw [h]; rfl
  · rw [h]; exact reps_no a d u h1 h2 h3
theorem atom_quo (n c : Nat) (t : List Nat) : atomA (n + 1) (quo c ++ t) = some (.set (single c), t) := by
  unfold quo
  by_cases h : c ∈ special
  · rw [if_pos h]
    show atomA (n + 1) (92 :: c :: t) = _
    rw [atomA_s, if_neg (by decide), if_neg (by decide), if_neg (by decide), if_pos rfl]
  · rw [if_neg h]
    show atomA (n + 1) (c :: t) = _
    rw [atomA_s, if_neg (by rintro rfl; exact h (by decide)), if_neg (by rintro rfl; exact h (by decide)), if_neg (by rintro rfl; exact h (by decide)), if_neg (by rintro rfl; exact h (by decide)), if_neg h]
theorem row_quote (s : List Nat) : ∀ (n : Nat) (o : Re), s.length + 3 ≤ n → rowA n o (quoteA s) = some (lits o s, []) := by
  induction s with
  | nil =>
    intro n o hn
    obtain ⟨n, rfl⟩ : ∃ k, n = k + 1 := ⟨n - 1, by omega⟩
    rw [rowA_s, if_pos (.inl rfl)]
    rfl
  | cons c r ih =>
    intro n o hn
    simp only [List.length_cons] at hn
    obtain ⟨n, rfl⟩ : ∃ k, n = k + 1 + 1 + 1 := ⟨n - 3, by omega⟩
    have hne : ¬ (quoteA (c :: r) = [] ∨ (quoteA (c :: r)).head? = some 124 ∨ (quoteA (c :: r)).head? = some 41) := by
      rcases quote_head (c :: r) with h | ⟨d, u, h, h1, h2, _⟩
      · exfalso
        obtain ⟨d, u, h3, _⟩ := quo_head c
        rw [quote_cons, h3] at h
        cases h
      · rw [h]
        simp [h1, h2]
    rw [rowA_s, if_neg hne, partA_s, quote_cons, atom_quo]
    simp only
    rw [reps_quote]
    simp only
    rw [ih (n + 1 + 1) _ (by omega)]
    rfl
theorem quote_len (s : List Nat) : s.length ≤ (quoteA s).length := by
  induction s with
  | nil => simp
  | cons c r ih =>
    rw [quote_cons, List.length_append, List.length_cons]
    obtain ⟨d, u, h, _⟩ := quo_head c
    rw [h, List.length_cons]
    omega
theorem read_quote (s : List Nat) : readA (quoteA s) = some (lits .nil s) := by
  refine read_of ?_
  have := quote_len s
  rw [show 8 * (quoteA s).length + 8 = (8 * (quoteA s).length + 6) + 1 + 1 by omega, patA_s, row_quote s _ _ (by omega)]
  simp only
  rw [barsA_s, if_neg (by simp)]
theorem single_get {c : Nat} (hc : c < 256) (d : Nat) : (single c)[d]? = some true ↔ d = c := by
  unfold single
  rw [List.getElem?_set]
  have hn : noSet.length = 256 := noSet_len
  constructor
  · intro h
    split at h
    · rename_i e; exact e.symm
    · exfalso
      have := List.mem_of_getElem? h
      unfold noSet at this
      rw [List.mem_replicate] at this
      cases this.2
  · rintro rfl
    rw [if_pos rfl, if_pos (by rw [hn]; exact hc)]
theorem lits_lang (s : List Nat) (hs : ∀ c ∈ s, c < 256) : ∀ (o : Re) (t : List Nat), Lang (lits o s) t ↔ ∃ u, Lang o u ∧ t = u ++ s := by
  induction s with
  | nil =>
    intro o t
    show Lang o t ↔ _
    constructor
    · intro h; exact ⟨t, h, by simp⟩
    · rintro ⟨u, h, rfl⟩; simpa using h
  | cons c r ih =>
    intro o t
    show Lang (lits (.cat o (lit c)) r) t ↔ _
    rw [ih (fun d hd => hs d (by simp [hd]))]
    constructor
    · rintro ⟨u, h, rfl⟩
      cases h with
      | cat h1 h2 =>
        rename_i a b
        cases h2 with
        | junk h2 =>
          obtain ⟨d, rfl, hd⟩ := lang_set.1 h2
          rw [single_get (hs c (by simp))] at hd
          subst hd
          exact ⟨a, h1, by simp⟩
    · rintro ⟨u, h, rfl⟩
      exact ⟨u ++ [c], .cat h (.junk (lang_set.2 ⟨c, rfl, (single_get (hs c (by simp)) c).2 rfl⟩)), by simp⟩
theorem lits_sets (s : List Nat) : ∀ o : Re, Sets o → Sets (lits o s) := by
  induction s with
  | nil => intro o h; exact h
  | cons c r ih =>
    intro o h
    refine ih _ ⟨h, ?_⟩
    show (single c).length = 256
    unfold single
    rw [List.length_set]
    exact noSet_len
theorem match_quote (s t : List Nat) (hs : ∀ c ∈ s, c < 256) : matchC (comp (lits .nil s)) t = decide (t = s) := by
  rw [Bool.eq_iff_iff, match_lang _ (lits_sets s .nil trivial), lits_lang s hs, decide_eq_true_eq]
  constructor
  · rintro ⟨u, h, rfl⟩
    cases h
    simp
  · rintro rfl
    exact ⟨[], .nil, by simp⟩
end Go.Proofs.Ytnidjfmbbfoheaa.Rx
