/- PLAIN: a set of letters. -/
import Derived.Test.YtnidjfmbbfoheaaRxG
namespace Go.Proofs.Ytnidjfmbbfoheaa.Rx
set_option linter.unusedVariables false
set_option linter.unusedSimpArgs false

/-- The places of some letters. -/
def lets (x : List Bool) (p : List Nat) : List Bool := p.foldl (fun y c => y.set c true) x
theorem lets_len (p : List Nat) : ∀ x, (lets x p).length = x.length := by
  induction p with
  | nil => intro x; rfl
  | cons c r ih => intro x; exact (ih _).trans (by rw [List.length_set])
theorem lets_on (p : List Nat) : ∀ (x : List Bool) (c : Nat), c < x.length → ((lets x p)[c]? = some true ↔ c ∈ p ∨ x[c]? = some true) := by
  induction p with
  | nil => intro x c _; simp [lets]
  | cons d r ih =>
    intro x c hc
    have h := ih (x.set d true) c (by rw [List.length_set]; exact hc)
    have e : lets x (d :: r) = lets (x.set d true) r := rfl
    rw [e, h, List.getElem?_set]
    by_cases hd : d = c
    · subst hd; simp [hc]
    · simp only [if_neg hd, List.mem_cons]
      constructor
      · rintro (h | h)
        · exact .inl (.inr h)
        · exact .inr h
      · rintro ((h | h) | h)
        · exact absurd h.symm hd
        · exact .inl h
        · exact .inr h
theorem setGo_lets : ∀ (p : List Nat), (∀ c ∈ p, 97 ≤ c ∧ c ≤ 122) → ∀ (n : Nat) (x : List Bool), p.length < n → setGo n x (p ++ [93]) = some (lets x p, []) := by
  intro p
  induction p with
  | nil =>
    intro _ n x hn
    obtain ⟨n, rfl⟩ : ∃ k, n = k + 1 := ⟨n - 1, by simp at hn; omega⟩
    rw [setGo_succ, if_pos (show ([] ++ [93] : List Nat).head? = some 93 from rfl)]
    rfl
  | cons c r ih =>
    intro hp n x hn
    obtain ⟨n, rfl⟩ : ∃ k, n = k + 1 := ⟨n - 1, by simp at hn; omega⟩
    have hc := hp c (by simp)
    have hr : ∀ d ∈ r, 97 ≤ d ∧ d ≤ 122 := fun d hd => hp d (List.mem_cons_of_mem _ hd)
    have hm : memb (c :: (r ++ [93])) = some (c, r ++ [93]) := by rw [memb_cons, if_neg (by omega), if_neg (by omega)]
    have hg : rng (r ++ [93]) = false := by
      cases r with
      | nil => rfl
      | cons d u =>
        have hd := hr d (by simp)
        have h45 : d ≠ 45 := by omega
        cases u with
        | nil => simp [rng, h45]
        | cons f v => simp [rng, h45]
    rw [List.cons_append, setGo_succ, if_neg (by simp; omega), hm]
    simp only [hg]
    have hf : fillS x c 1 = x.set c true := rfl
    rw [if_neg (by simp), hf, ih hr n _ (by simp at hn; omega)]
    rfl
theorem read_lets {p : List Nat} (hp : ∀ c ∈ p, 97 ≤ c ∧ c ≤ 122) (h0 : p ≠ []) : readA (91 :: (p ++ [93])) = some (.cat .nil (.junk (.set (lets noSet p)))) := by
  refine read_row1 ?_ (by simp) ⟨by simp, by simp⟩
  obtain ⟨c, r, rfl⟩ : ∃ c r, p = c :: r := by cases p with | nil => exact absurd rfl h0 | cons c r => exact ⟨c, r, rfl⟩
  have hc := hp c (by simp)
  have hs : setP (c :: r ++ [93]) = some (lets noSet (c :: r), []) := by
    unfold setP
    rw [if_neg (by simp; omega), if_neg (by simp; omega)]
    exact setGo_lets _ hp _ _ (by simp)
  rw [show 8 * (91 :: (c :: r ++ [93])).length + 6 = 8 * r.length + 28 + 1 + 1 by simp; omega, partA_s, atomA_s, if_neg (by decide), if_pos rfl, hs]
  rfl
theorem read_nots {p : List Nat} (hp : ∀ c ∈ p, 97 ≤ c ∧ c ≤ 122) (h0 : p ≠ []) : readA (91 :: 94 :: (p ++ [93])) = some (.cat .nil (.junk (.set (setNot (lets noSet p))))) := by
  refine read_row1 ?_ (by simp) ⟨by simp, by simp⟩
  obtain ⟨c, r, rfl⟩ : ∃ c r, p = c :: r := by cases p with | nil => exact absurd rfl h0 | cons c r => exact ⟨c, r, rfl⟩
  have hc := hp c (by simp)
  have hs : setP (94 :: (c :: r ++ [93])) = some (setNot (lets noSet (c :: r)), []) := by
    unfold setP
    rw [if_pos (show (94 :: (c :: r ++ [93])).head? = some 94 from rfl), if_neg (by simp; omega)]
    simp only [List.tail_cons]
    rw [setGo_lets _ hp _ _ (by simp)]
    rfl
  rw [show 8 * (91 :: 94 :: (c :: r ++ [93])).length + 6 = 8 * r.length + 36 + 1 + 1 by simp; omega, partA_s, atomA_s, if_neg (by decide), if_pos rfl, hs]
  rfl
theorem lang_set {x : List Bool} {t : List Nat} : Lang (.set x) t ↔ ∃ c, t = [c] ∧ x[c]? = some true := by
  constructor
  · intro h
    cases h with
    | @set _ c h => exact ⟨c, rfl, h⟩
  · rintro ⟨c, rfl, h⟩
    exact .set h
theorem set_sets (p : List Nat) : Sets (.cat .nil (.junk (.set (lets noSet p)))) := ⟨trivial, (lets_len p _).trans noSet_len⟩
theorem not_sets (p : List Nat) : Sets (.cat .nil (.junk (.set (setNot (lets noSet p))))) := ⟨trivial, ((setNot_len _).trans (lets_len p _)).trans noSet_len⟩
theorem noSet_at (c : Nat) : ¬ noSet[c]? = some true := by
  unfold noSet
  rw [List.getElem?_replicate]
  split <;> simp
theorem match_lets (p : List Nat) (c : Nat) (hc : c < 256) : matchC (comp (.cat .nil (.junk (.set (lets noSet p))))) [c] = decide (c ∈ p) := by
  rw [Bool.eq_iff_iff, match_lang _ (set_sets p), lang_cat_nil, lang_junk, lang_set]
  have h := lets_on p noSet c (by rw [noSet_len]; exact hc)
  simp only [List.cons.injEq, and_true, decide_eq_true_eq]
  constructor
  · rintro ⟨d, rfl, h2⟩
    exact (h.1 h2).elim id (fun h => absurd h (noSet_at _))
  · intro h2
    exact ⟨c, rfl, h.2 (.inl h2)⟩
theorem match_two (p : List Nat) (c d : Nat) : matchC (comp (.cat .nil (.junk (.set (lets noSet p))))) [c, d] = false := by
  rw [Bool.eq_false_iff]
  intro h
  rw [match_lang _ (set_sets p), lang_cat_nil, lang_junk, lang_set] at h
  obtain ⟨e, h, _⟩ := h
  simp at h
theorem match_nots (p : List Nat) (c : Nat) (hc : c < 256) : matchC (comp (.cat .nil (.junk (.set (setNot (lets noSet p)))))) [c] = !decide (c ∈ p) := by
  have hl : c < (lets noSet p).length := by rw [lets_len, noSet_len]; exact hc
  have h := lets_on p noSet c (by rw [noSet_len]; exact hc)
  have hn : (setNot (lets noSet p))[c]? = some (!(lets noSet p)[c]) := by
    unfold setNot
    rw [List.getElem?_map, List.getElem?_eq_getElem hl]
    rfl
  rw [List.getElem?_eq_getElem hl] at h
  have h3 : (lets noSet p)[c] = decide (c ∈ p) := by
    rw [Bool.eq_iff_iff, decide_eq_true_eq]
    constructor
    · intro h2; exact (h.1 (by rw [h2])).elim id (fun h => absurd h (noSet_at _))
    · intro h2; have := h.2 (.inl h2); simpa using this
  rw [h3] at hn
  rw [Bool.eq_iff_iff, match_lang _ (not_sets p), lang_cat_nil, lang_junk, lang_set]
  constructor
  · rintro ⟨d, h1, h2⟩
    injection h1 with h1
    subst h1
    rw [hn] at h2
    injection h2
  · intro h2
    exact ⟨c, rfl, by rw [hn, h2]⟩
end Go.Proofs.Ytnidjfmbbfoheaa.Rx
