/- PLAIN: what hearing does, whatever the order; what rises. -/
import Derived.Test.YtnlpgjdgiappcaaMbPure
namespace Go.Proofs.Ytnlpgjdgiappcaa.Pl
set_option linter.unusedVariables false
set_option linter.unusedSimpArgs false

theorem above_irrefl (m : M) : above m m = false := by simp [above]
theorem above_asymm {a b : M} (h : above a b = true) : above b a = false := by
  unfold above at *
  by_cases e : a.i = b.i
  · rw [if_pos e] at h; rw [if_pos e.symm]; simp at *; omega
  · rw [if_neg e] at h; rw [if_neg (fun x => e x.symm)]; simp at *; omega
theorem above_trans {a b c : M} (h : above a b = true) (k : above b c = true) : above a c = true := by
  unfold above at *
  split at h <;> split at k <;> split <;> simp_all <;> omega
theorem above_total {a b : M} (hn : a.n = b.n) (h : above a b = false) (k : above b a = false) : a = b := by
  unfold above at *
  obtain ⟨n, s, i⟩ := a
  obtain ⟨n', s', i'⟩ := b
  simp only at *
  by_cases e : i = i'
  · rw [if_pos e] at h; rw [if_pos e.symm] at k; simp at h k
    obtain rfl : s = s' := by omega
    rw [hn, e]
  · rw [if_neg e] at h; rw [if_neg (fun x => e x.symm)] at k; simp at h k; omega
theorem not_above_trans {a b c : M} (h : above a b = false) (k : above b c = false) : above a c = false := by
  unfold above at *
  split at h <;> split at k <;> split <;> simp_all <;> omega

/-- The greatest of a set. -/
def IsMax (S : M → Prop) : Option M → Prop
  | none => ∀ m, ¬ S m
  | some x => S x ∧ ∀ m, S m → above m x = false

theorem IsMax.unique {S : M → Prop} {n : Int} (hS : ∀ m, S m → m.n = n) {a b : Option M} (ha : IsMax S a) (hb : IsMax S b) : a = b := by
  cases a with
  | none =>
    cases b with
    | none => rfl
    | some y => exact absurd hb.1 (ha y)
  | some x =>
    cases b with
    | none => exact absurd ha.1 (hb x)
    | some y => rw [above_total ((hS x ha.1).trans (hS y hb.1).symm) (hb.2 x ha.1) (ha.2 y hb.1)]

theorem IsMax.congr {S T : M → Prop} (h : ∀ m, S m ↔ T m) {a : Option M} (ha : IsMax S a) : IsMax T a := by
  cases a with
  | none => exact fun m hm => ha m ((h m).2 hm)
  | some x => exact ⟨(h x).1 ha.1, fun m hm => ha.2 m ((h m).2 hm)⟩

/-- What is told of place k. -/
def Said (k : Nat) (l : List M) (m : M) : Prop := m ∈ l ∧ mayM m = true ∧ m.n.toNat = k

theorem heard_other {self : Int} {f : Tab} {m : M} {k : Nat} (h : m.n.toNat ≠ k) : heard self f m k = f k := by
  unfold heard
  cases hx : hear self f m with
  | some x =>
    obtain ⟨_, rfl⟩ := hear_some hx
    simp [put, bump_n, Ne.symm h]
  | none => rfl
theorem heard_not {self : Int} {f : Tab} {m : M} (h : mayM m = false) : heard self f m = f := by
  unfold heard hear
  simp [h]

theorem heard_max {self : Int} {f : Tab} {S : M → Prop} {m : M} {k : Nat} (hm : m.n ≠ self) (h : IsMax S (f k)) :
    IsMax (fun x => S x ∨ Said k [m] x) (heard self f m k) := by
  by_cases hk : m.n.toNat = k
  · by_cases hmay : mayM m = true
    · have hb : bump self m = m := by simp [bump, hm]
      cases hfk : f k with
      | none =>
        rw [hfk] at h
        have e : heard self f m k = some m := by simp [heard, hear, hmay, hk, hfk, hb, put]
        rw [e]
        refine ⟨.inr ⟨by simp, hmay, hk⟩, ?_⟩
        rintro x (hx | ⟨hx, _⟩)
        · exact absurd hx (h x)
        · simp at hx; subst hx; exact above_irrefl _
      | some o =>
        rw [hfk] at h
        by_cases ha : above m o = true
        · have e : heard self f m k = some m := by simp [heard, hear, hmay, hk, hfk, hb, put, ha]
          rw [e]
          refine ⟨.inr ⟨by simp, hmay, hk⟩, ?_⟩
          rintro x (hx | ⟨hx, _⟩)
          · exact not_above_trans (h.2 x hx) (above_asymm ha)
          · simp at hx; subst hx; exact above_irrefl _
        · have e : heard self f m k = some o := by simp [heard, hear, hmay, hk, hfk, ha]
          rw [e]
          refine ⟨.inl h.1, ?_⟩
          rintro x (hx | ⟨hx, _⟩)
          · exact h.2 x hx
          · simp at hx; subst hx; simpa using ha
    · rw [heard_not (by simpa using hmay)]
      exact h.congr fun x => ⟨.inl, fun hx => hx.elim id fun ⟨hx, hx2, _⟩ => by simp at hx; subst hx; exact absurd hx2 hmay⟩
  · rw [heard_other hk]
    exact h.congr fun x => ⟨.inl, fun hx => hx.elim id fun ⟨hx, _, hx3⟩ => by simp at hx; subst hx; exact absurd hx3 hk⟩

theorem merge_max {self : Int} {k : Nat} (l : List M) : ∀ {f : Tab} {S : M → Prop}, (∀ m ∈ l, m.n ≠ self) → IsMax S (f k) → IsMax (fun x => S x ∨ Said k l x) (merge self f l k) := by
  induction l with
  | nil => intro f S _ h; exact h.congr fun x => ⟨.inl, fun hx => hx.elim id fun ⟨hx, _⟩ => by simp at hx⟩
  | cons m l ih =>
    intro f S hl h
    refine (ih (fun x hx => hl x (by simp [hx])) (heard_max (hl m (by simp)) h)).congr fun x => ?_
    simp only [Said, List.mem_cons, List.not_mem_nil, or_false]
    constructor
    · rintro ((hx | ⟨hx, h1⟩) | ⟨hx, h1⟩)
      · exact .inl hx
      · exact .inr ⟨.inl hx, h1⟩
      · exact .inr ⟨.inr hx, h1⟩
    · rintro (hx | ⟨(hx | hx), h1⟩)
      · exact .inl (.inl hx)
      · exact .inl (.inr ⟨hx, h1⟩)
      · exact .inr ⟨hx, h1⟩

theorem isMax_self (o : Option M) : IsMax (fun x => o = some x) o := by
  cases o with
  | none => intro m h; cases h
  | some x => exact ⟨rfl, fun m h => by injection h with h; subst h; exact above_irrefl _⟩

theorem merge_comm {self : Int} {f : Tab} (hf : TOk self f) (a b : List M) (ha : ∀ m ∈ a, MOk m ∧ m.n ≠ self) (hb : ∀ m ∈ b, MOk m ∧ m.n ≠ self) :
    merge self (merge self f a) b = merge self (merge self (merge self f b) a) b := by
  funext k
  have h1 := merge_max (k := k) (a ++ b) (f := f) (fun m hm => (List.mem_append.1 hm).elim (fun h => (ha m h).2) (fun h => (hb m h).2)) (isMax_self (f k))
  have h2 := merge_max (k := k) (b ++ a ++ b) (f := f) (fun m hm => (List.mem_append.1 hm).elim (fun hm => (List.mem_append.1 hm).elim (fun h => (hb m h).2) (fun h => (ha m h).2)) (fun h => (hb m h).2)) (isMax_self (f k))
  rw [merge_append] at h1
  rw [merge_append, merge_append] at h2
  refine IsMax.unique (n := k) ?_ h1 (h2.congr fun x => ?_)
  · rintro m (hm | ⟨hm, h3, h4⟩)
    · exact (hf.at_ k m hm).2.1
    · have hok : MOk m := (List.mem_append.1 hm).elim (fun h => (ha m h).1) (fun h => (hb m h).1)
      have := hok.n0
      omega
  · simp only [Said, List.mem_append]
    constructor
    · rintro (h | ⟨(h | h) | h, h'⟩)
      · exact .inl h
      · exact .inr ⟨.inr h, h'⟩
      · exact .inr ⟨.inl h, h'⟩
      · exact .inr ⟨.inr h, h'⟩
    · rintro (h | ⟨h | h, h'⟩)
      · exact .inl h
      · exact .inr ⟨.inl (.inr h), h'⟩
      · exact .inr ⟨.inr h, h'⟩

theorem listT_mem {self : Int} {f : Tab} (hf : TOk self f) {m : M} (h : m ∈ listT f) : f m.n.toNat = some m := by
  unfold listT at h
  obtain ⟨k, hk, hm⟩ := List.mem_filterMap.1 h
  have := (hf.at_ k m hm).2.1
  rw [this]; simpa using hm

theorem hear_old {self : Int} {f : Tab} {m : M} (h : f m.n.toNat = some m) : hear self f m = none := by
  unfold hear
  split
  · rw [h]; simp [above_irrefl]
  · rfl
theorem merge_old {self : Int} {f : Tab} (l : List M) (h : ∀ m ∈ l, f m.n.toNat = some m) : merge self f l = f ∧ told self f l = [] := by
  induction l with
  | nil => exact ⟨rfl, rfl⟩
  | cons m l ih =>
    have e := hear_old (self := self) (h m (by simp))
    have e2 : heard self f m = f := by simp [heard, e]
    simp only [merge, told, e2, e]
    exact ⟨(ih fun x hx => h x (by simp [hx])).1, by simp [(ih fun x hx => h x (by simp [hx])).2]⟩

end Go.Proofs.Ytnlpgjdgiappcaa.Pl
