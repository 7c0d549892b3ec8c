/- PLAIN LAW: matching tells just whether the states lead to the end. -/
import Derived.Test.YtnidjfmbbfoheaaRxB
namespace Go.Proofs.Ytnidjfmbbfoheaa.Rx
set_option linter.unusedVariables false
set_option linter.unusedSimpArgs false

/-- What the states of a pattern may be. -/
structure Val (c : Cm) : Prop where
  len : 2 ≤ c.st.length
  a : c.a < c.st.length - 1
  st : ∀ (j : Nat) (q : St), c.st[j]? = some q → -1 ≤ q.nxt ∧ q.nxt < (c.st.length : Int) - 1 ∧ -1 ≤ q.oth ∧ q.oth < (c.st.length : Int) - 1 ∧ ∀ x : List Bool, q.set = some x → x.length = 256
  e : 0 ≤ endOf c ∧ endOf c < (c.st.length : Int) - 1

structure StOk (n : Nat) (q : St) : Prop where
  n0 : -1 ≤ q.nxt
  n1 : q.nxt < n
  o0 : -1 ≤ q.oth
  o1 : q.oth < n
  s : ∀ x : List Bool, q.set = some x → x.length = 256
/-- The sets of a pattern have 256 bytes. -/
def Sets : Re → Prop
  | .set x => x.length = 256
  | .nil => True
  | .cat a b => Sets a ∧ Sets b
  | .alt a b => Sets a ∧ Sets b
  | .star a => Sets a
  | .plus a => Sets a
  | .opt a => Sets a
  | .junk a => Sets a
def AllOk (st : List St) : Prop := ∀ (j : Nat) (q : St), st[j]? = some q → StOk st.length q
theorem free_ok (n : Nat) : StOk n free := ⟨by simp [free], by simp only [free]; omega, by simp [free], by simp only [free]; omega, fun x h => by cases h⟩
theorem StOk.mono {n m : Nat} {q : St} (h : StOk n q) (hm : n ≤ m) : StOk m q := ⟨h.n0, by have := h.n1; omega, h.o0, by have := h.o1; omega, h.s⟩
theorem AllOk.add {st : List St} (h : AllOk st) {q : St} (hq : StOk (st.length + 1) q) : AllOk (st ++ [q]) := by
  intro j x hx
  rw [List.length_append, List.length_singleton]
  by_cases hj : j < st.length
  · rw [app_l _ _ hj] at hx
    exact (h j x hx).mono (by omega)
  · have hj2 := (List.getElem?_eq_some_iff.1 hx).1
    simp at hj2
    obtain rfl : j = st.length := by omega
    rw [app_at] at hx
    injection hx with hx
    subst hx
    exact hq
theorem AllOk.next {st : List St} (h : AllOk st) (k : Nat) {v : Int} (hv : -1 ≤ v ∧ v < st.length) : AllOk (nextAt st k v) := by
  intro j x hx
  rw [nextAt_length]
  by_cases hj : j = k
  · subst hj
    cases hq : st[j]? with
    | none =>
      have := (List.getElem?_eq_some_iff.1 hx).1
      rw [nextAt_length] at this
      rw [List.getElem?_eq_getElem this] at hq
      cases hq
    | some q =>
      rw [nextAt_eq _ _ _ _ hq] at hx
      injection hx with hx
      subst hx
      have := h j q hq
      exact ⟨hv.1, hv.2, this.o0, this.o1, this.s⟩
  · rw [nextAt_ne _ _ _ _ hj] at hx
    exact h j x hx
theorem AllOk.other {st : List St} (h : AllOk st) (k : Nat) {v : Int} (hv : -1 ≤ v ∧ v < st.length) : AllOk (otherAt st k v) := by
  intro j x hx
  rw [otherAt_length]
  by_cases hj : j = k
  · subst hj
    cases hq : st[j]? with
    | none =>
      have := (List.getElem?_eq_some_iff.1 hx).1
      rw [otherAt_length] at this
      rw [List.getElem?_eq_getElem this] at hq
      cases hq
    | some q =>
      rw [otherAt_eq _ _ _ _ hq] at hx
      injection hx with hx
      subst hx
      have := h j q hq
      exact ⟨this.n0, this.n1, hv.1, hv.2, this.s⟩
  · rw [otherAt_ne _ _ _ _ hj] at hx
    exact h j x hx
theorem gen_all (r : Re) : ∀ st, Sets r → AllOk st → AllOk (gen r st).2 := by
  induction r with
  | set x =>
    intro st hs h
    simp only [gen]
    refine (h.add (free_ok _)).add ⟨by simp only; omega, by simp only [List.length_append, List.length_singleton]; omega, by simp only; omega, by simp only [List.length_append, List.length_singleton]; omega, fun y hy => ?_⟩
    injection hy with hy
    subst hy
    exact hs
  | nil => intro st hs h; simp only [gen]; exact h.add (free_ok _)
  | cat a b iha ihb =>
    intro st hs h
    have ga := gen_ok a st
    have gb := gen_ok b (gen a st).2
    have := gb.a1
    simp only [gen]
    exact (ihb _ hs.2 (iha _ hs.1 h)).next _ ⟨by omega, by omega⟩
  | alt a b iha ihb =>
    intro st hs h
    have ga := gen_ok a st
    have gb := gen_ok b (gen a st).2
    have := gb.a1
    have := ga.a1
    have := gb.a0
    have := gb.pre
    have hl : (gen a st).2.length ≤ (gen b (gen a st).2).2.length := by have := gb.a0; have := gb.a1; omega
    simp only [gen]
    refine ((((ihb _ hs.2 (iha _ hs.1 h)).add (free_ok _)).next _ ⟨by omega, by simp; omega⟩).next _ ⟨by omega, by simp only [nextAt_length, List.length_append, List.length_singleton]; omega⟩).add ⟨by simp only; omega, ?_, by simp only; omega, ?_, fun x h => by cases h⟩
    · simp only [nextAt_length, List.length_append, List.length_singleton]; omega
    · simp only [nextAt_length, List.length_append, List.length_singleton]; omega
  | star a ih =>
    intro st hs h
    have ga := gen_ok a st
    have := ga.a1
    simp only [gen]
    refine ((((ih _ hs h).add (free_ok _)).next _ ⟨by omega, by simp; omega⟩).other _ ⟨by omega, by simp only [nextAt_length, List.length_append, List.length_singleton]; omega⟩).add ⟨by simp only; omega, ?_, by simp only; omega, ?_, fun x h => by cases h⟩
    · simp only [nextAt_length, otherAt_length, List.length_append, List.length_singleton]; omega
    · simp only [nextAt_length, otherAt_length, List.length_append, List.length_singleton]; omega
  | plus a ih =>
    intro st hs h
    have ga := gen_ok a st
    have := ga.a1
    simp only [gen]
    exact (((ih _ hs h).add (free_ok _)).next _ ⟨by omega, by simp; omega⟩).other _ ⟨by omega, by simp only [nextAt_length, List.length_append, List.length_singleton]; omega⟩
  | opt a ih =>
    intro st hs h
    have ga := gen_ok a st
    have := ga.a1
    simp only [gen]
    refine (((ih _ hs h).add (free_ok _)).next _ ⟨by omega, by simp; omega⟩).add ⟨by simp only; omega, ?_, by simp only; omega, ?_, fun x h => by cases h⟩
    · simp only [nextAt_length, List.length_append, List.length_singleton]; omega
    · simp only [nextAt_length, List.length_append, List.length_singleton]; omega
  | junk a ih => intro st hs h; simp only [gen]; exact (ih _ hs h).add (free_ok _)
theorem comp_val (r : Re) (hs : Sets r) : Val (comp r) := by
  have g := gen_ok r []
  have hA := gen_all r [] hs (fun j q h => by simp at h)
  have hz := g.z1
  have ha := g.a1
  have hl : (comp r).st.length = (gen r []).2.length + 1 := by simp [comp]
  refine ⟨by omega, by rw [hl]; exact ha, fun j q hq => ?_, ?_⟩
  · rw [hl]
    by_cases hj : j < (gen r []).2.length
    · simp only [comp] at hq
      rw [app_l _ _ hj] at hq
      have := hA j q hq
      exact ⟨this.n0, by have := this.n1; omega, this.o0, by have := this.o1; omega, this.s⟩
    · have hj2 := (List.getElem?_eq_some_iff.1 hq).1
      rw [hl] at hj2
      obtain rfl : j = (gen r []).2.length := by omega
      simp only [comp] at hq
      rw [app_at] at hq
      injection hq with hq
      subst hq
      refine ⟨by simp, by simp; omega, by simp only; omega, by simp only; omega, fun x h => by cases h⟩
  · have he : endOf (comp r) = ((gen r []).1.z : Int) := by
      unfold endOf
      rw [hl]
      simp only [comp, Nat.add_sub_cancel]
      rw [app_at]
    rw [he, hl]
    omega

/-! ### who is reached -/
def on (x : List Bool) (j : Nat) : Prop := x[j]? = some true
def Eps (F : List St) (j k : Nat) : Prop := ∃ q, F[j]? = some q ∧ q.set = none ∧ ((k : Int) = q.nxt ∨ (k : Int) = q.oth)
theorem on_set (x : List Bool) (k j : Nat) : on (x.set k true) j ↔ (j = k ∧ k < x.length) ∨ on x j := by
  unfold on
  rw [List.getElem?_set]
  by_cases h : k = j
  · subst h
    by_cases h2 : k < x.length
    · simp [h2]
    · simp [h2]
  · simp only [if_neg h]
    constructor
    · exact .inr
    · rintro (⟨rfl, _⟩ | h)
      · exact absurd rfl h
      · exact h
def cf (x : List Bool) : Nat := x.count false
theorem cf_set {x : List Bool} {k : Nat} (hk : k < x.length) (h : ¬ on x k) : cf (x.set k true) + 1 = cf x := by
  unfold cf
  have hx : x[k] = false := by
    cases hb : x[k] with
    | false => rfl
    | true => exact absurd (show on x k by unfold on; rw [List.getElem?_eq_getElem hk, hb]) h
  rw [List.count_set hk, hx]
  have : 0 < x.count false := List.count_pos_iff.2 (by rw [← hx]; exact List.getElem_mem hk)
  simp
  omega
theorem cf_mono : ∀ (x y : List Bool), x.length = y.length → (∀ j, on x j → on y j) → cf y ≤ cf x := by
  intro x
  induction x with
  | nil => intro y hl _; cases y with
    | nil => exact Nat.le_refl _
    | cons b y => simp at hl
  | cons a x ih =>
    intro y hl h
    cases y with
    | nil => simp at hl
    | cons b y =>
      have h1 := ih y (by simpa using hl) (fun j hj => by have := h (j + 1) (by simpa [on] using hj); simpa [on] using this)
      have h2 := h 0
      simp only [on, List.getElem?_cons_zero, Option.some.injEq] at h2
      unfold cf at *
      cases a <;> cases b <;> simp [List.count_cons] at * <;> omega
theorem reach_len (F : List St) : ∀ n k x, (reach F n k x).length = x.length := by
  intro n
  induction n with
  | zero => intro k x; rfl
  | succ n ih =>
    intro k x
    unfold reach
    split
    · rfl
    · split
      · split
        · rw [ih, ih, List.length_set]
        · rw [List.length_set]
      · rw [List.length_set]
theorem reach_mono (F : List St) : ∀ n k x j, on x j → on (reach F n k x) j := by
  intro n
  induction n with
  | zero => intro k x j h; exact h
  | succ n ih =>
    intro k x j h
    unfold reach
    split
    · exact h
    · split
      · split
        · exact ih _ _ _ (ih _ _ _ ((on_set _ _ _).2 (.inr h)))
        · exact (on_set _ _ _).2 (.inr h)
      · exact (on_set _ _ _).2 (.inr h)
theorem reach_spec (F : List St) (N : Nat) (hF : ∀ (j : Nat) (q : St), F[j]? = some q → -1 ≤ q.nxt ∧ q.nxt < N ∧ -1 ≤ q.oth ∧ q.oth < N) (hN : N ≤ F.length) : ∀ n (k : Int) x, x.length = N → -1 ≤ k → k < N → cf x < n →
    (0 ≤ k → on (reach F n k x) k.toNat) ∧ (∀ j, on (reach F n k x) j → ¬ on x j → ∀ i, Eps F j i → on (reach F n k x) i) ∧
    (∀ C : Nat → Prop, (0 ≤ k → C k.toNat) → (∀ j i, C j → Eps F j i → C i) → ∀ j, on (reach F n k x) j → on x j ∨ C j) := by
  intro n
  induction n with
  | zero => intro k x hx h0 h1 hf; omega
  | succ n ih =>
    intro k x hx h0 h1 hf
    unfold reach
    by_cases hk : k < 0 ∨ x[k.toNat]? = some true
    · rw [if_pos hk]
      refine ⟨fun hk0 => ?_, fun j hj hn => absurd hj hn, fun C _ _ j hj => .inl hj⟩
      rcases hk with hk | hk
      · omega
      · exact hk
    · rw [if_neg hk]
      have hk0 : 0 ≤ k := by omega
      have hkn : ¬ on x k.toNat := fun h => hk (.inr h)
      have hkl : k.toNat < x.length := by omega
      obtain ⟨q, hq⟩ : ∃ q, F[k.toNat]? = some q := ⟨_, List.getElem?_eq_getElem (by omega)⟩
      have hval := hF _ _ hq
      have hcf := cf_set hkl hkn
      simp only [hq]
      cases hs : q.set with
      | some y =>
        simp only
        refine ⟨fun _ => (on_set _ _ _).2 (.inl ⟨rfl, hkl⟩), fun j hj hn i hi => ?_, fun C hC _ j hj => ?_⟩
        · rcases (on_set _ _ _).1 hj with ⟨rfl, _⟩ | hj
          · obtain ⟨q', hq', hs', _⟩ := hi
            rw [hq] at hq'
            injection hq' with hq'
            subst hq'
            rw [hs] at hs'
            cases hs'
          · exact absurd hj hn
        · rcases (on_set _ _ _).1 hj with ⟨rfl, _⟩ | hj
          · exact .inr (hC hk0)
          · exact .inl hj
      | none =>
        simp only
        have hx1 : (x.set k.toNat true).length = N := by rw [List.length_set, hx]
        obtain ⟨p1, p2, p3⟩ := ih q.nxt (x.set k.toNat true) hx1 hval.1 hval.2.1 (by omega)
        have m1 := reach_mono F n q.nxt (x.set k.toNat true)
        have l1 := reach_len F n q.nxt (x.set k.toNat true)
        have c1 := cf_mono _ _ l1.symm m1
        obtain ⟨r1, r2, r3⟩ := ih q.oth (reach F n q.nxt (x.set k.toNat true)) (by rw [l1, hx1]) hval.2.2.1 hval.2.2.2 (by omega)
        have m2 := reach_mono F n q.oth (reach F n q.nxt (x.set k.toNat true))
        refine ⟨fun _ => m2 _ (m1 _ ((on_set _ _ _).2 (.inl ⟨rfl, hkl⟩))), fun j hj hn i hi => ?_, fun C hC hcl j hj => ?_⟩
        · by_cases hj1 : on (reach F n q.nxt (x.set k.toNat true)) j
          · by_cases hj2 : on (x.set k.toNat true) j
            · rcases (on_set _ _ _).1 hj2 with ⟨rfl, _⟩ | hj2
              · obtain ⟨q', hq', hs', he⟩ := hi
                rw [hq] at hq'
                injection hq' with hq'
                subst hq'
                rcases he with he | he
                · have := p1 (by omega)
                  rw [show q.nxt.toNat = i by omega] at this
                  exact m2 _ this
                · have := r1 (by omega)
                  rw [show q.oth.toNat = i by omega] at this
                  exact this
              · exact absurd hj2 hn
            · exact m2 _ (p2 j hj1 hj2 i hi)
          · exact r2 j hj hj1 i hi
        · have hCk := hC hk0
          have cn : 0 ≤ q.nxt → C q.nxt.toNat := fun h => hcl _ _ hCk ⟨q, hq, hs, .inl (by omega)⟩
          have co : 0 ≤ q.oth → C q.oth.toNat := fun h => hcl _ _ hCk ⟨q, hq, hs, .inr (by omega)⟩
          rcases r3 C co hcl j hj with h | h
          · rcases p3 C cn hcl j h with h | h
            · rcases (on_set _ _ _).1 h with ⟨rfl, _⟩ | h
              · exact .inr hCk
              · exact .inl h
            · exact .inr h
          · exact .inr h

/-! ### matching -/
inductive Rch (c : Cm) : Nat → List Nat → Prop
  | start : Rch c c.a []
  | eps {j k : Nat} {t : List Nat} : Rch c j t → Eps c.st j k → Rch c k t
  | byte {j k : Nat} {t : List Nat} {q : St} {x : List Bool} {b : Nat} : Rch c j t → c.st[j]? = some q → q.set = some x → x[b]? = some true → (k : Int) = q.nxt → Rch c k (t ++ [b])
theorem cf_le (x : List Bool) : cf x ≤ x.length := by unfold cf; exact List.count_le_length
section
variable {c : Cm} (V : Val c)
include V
theorem V_st : ∀ (j : Nat) (q : St), c.st[j]? = some q → -1 ≤ q.nxt ∧ q.nxt < ((c.st.length - 1 : Nat) : Int) ∧ -1 ≤ q.oth ∧ q.oth < ((c.st.length - 1 : Nat) : Int) := fun j q h => by
  have := V.st j q h
  have := V.len
  omega
theorem reach_at (k : Int) (x : List Bool) (hx : x.length = c.st.length - 1) (h0 : -1 ≤ k) (h1 : k < (c.st.length : Int) - 1) :
    (0 ≤ k → on (reach c.st c.st.length k x) k.toNat) ∧ ((∀ j i, on x j → Eps c.st j i → on x i) → ∀ j i, on (reach c.st c.st.length k x) j → Eps c.st j i → on (reach c.st c.st.length k x) i) ∧
    (∀ C : Nat → Prop, (0 ≤ k → C k.toNat) → (∀ j i, C j → Eps c.st j i → C i) → ∀ j, on (reach c.st c.st.length k x) j → on x j ∨ C j) := by
  have hl := V.len
  have hcf := cf_le x
  obtain ⟨p1, p2, p3⟩ := reach_spec c.st (c.st.length - 1) (V_st V) (by omega) c.st.length k x hx h0 (by omega) (by omega)
  refine ⟨p1, fun hcl j i hj hi => ?_, p3⟩
  by_cases hjx : on x j
  · exact reach_mono _ _ _ _ _ (hcl j i hjx hi)
  · exact p2 j hj hjx i hi
omit V in
theorem none_len : (noneIn c).length = c.st.length - 1 := by simp [noneIn]
omit V in
theorem none_on (j : Nat) : ¬ on (noneIn c) j := by
  unfold on noneIn
  rw [List.getElem?_replicate]
  split <;> simp
structure Good (S : List Bool) (t : List Nat) : Prop where
  len : S.length = c.st.length - 1
  cl : ∀ j i, on S j → Eps c.st j i → on S i
  ok : ∀ j, on S j → Rch c j t
theorem start_good : Good (c := c) (startIn c) [] ∧ on (startIn c) c.a := by
  have ha := V.a
  have hl := V.len
  obtain ⟨p1, p2, p3⟩ := reach_at V (c.a : Int) (noneIn c) (none_len) (by omega) (by omega)
  refine ⟨⟨by unfold startIn; rw [reach_len, none_len], p2 (fun j i h => absurd h (none_on j)), fun j hj => ?_⟩, ?_⟩
  · rcases p3 (fun j : Nat => Rch c j []) (fun _ => by rw [Int.toNat_natCast]; exact .start) (fun j i h e => .eps h e) j hj with h | h
    · exact absurd h (none_on j)
    · exact h
  · have := p1 (by omega)
    rwa [Int.toNat_natCast] at this
theorem step_good {S : List Bool} {t : List Nat} (G : Good (c := c) S t) (b : Nat) :
    Good (c := c) (stepAll c S b) (t ++ [b]) ∧ ∀ (j : Nat) (q : St) (x : List Bool) (k : Nat), on S j → c.st[j]? = some q → q.set = some x → x[b]? = some true → (k : Int) = q.nxt → on (stepAll c S b) k := by
  have hlen := V.len
  have main : ∀ n, n ≤ c.st.length - 1 → Good (c := c) ((List.range n).foldl (stepOne c S b) (noneIn c)) (t ++ [b]) ∧
      ∀ j, j < n → ∀ (q : St) (x : List Bool) (k : Nat), on S j → c.st[j]? = some q → q.set = some x → x[b]? = some true → (k : Int) = q.nxt → on ((List.range n).foldl (stepOne c S b) (noneIn c)) k := by
    intro n
    induction n with
    | zero => intro _; exact ⟨⟨by simpa using none_len, fun j i h => absurd h (none_on j), fun j h => absurd h (none_on j)⟩, fun j hj => by omega⟩
    | succ n ih =>
      intro hn
      obtain ⟨g, h⟩ := ih (by omega)
      rw [List.range_succ, List.foldl_append, List.foldl_cons, List.foldl_nil]
      generalize (List.range n).foldl (stepOne c S b) (noneIn c) = X at g h
      have same : (¬ ∃ (q : St) (x : List Bool), on S n ∧ c.st[n]? = some q ∧ q.set = some x ∧ x[b]? = some true) → stepOne c S b X n = X := by
        intro hno
        unfold stepOne
        split
        · rename_i hon
          split
          · rename_i q hq
            split
            · rename_i y hy
              split
              · rename_i hb
                exact absurd ⟨q, y, hon, hq, hy, hb⟩ hno
              · rfl
            · rfl
          · rfl
        · rfl
      by_cases he : ∃ (q : St) (x : List Bool), on S n ∧ c.st[n]? = some q ∧ q.set = some x ∧ x[b]? = some true
      · obtain ⟨q, x, hon, hq, hs, hb⟩ := he
        have hv := V.st n q hq
        have e : stepOne c S b X n = reach c.st c.st.length q.nxt X := by
          unfold stepOne
          rw [if_pos (show S[n]? = some true from hon)]
          simp only [hq, hs]
          rw [if_pos hb]
        rw [e]
        obtain ⟨p1, p2, p3⟩ := reach_at V q.nxt X g.len (by omega) (by omega)
        refine ⟨⟨by rw [reach_len, g.len], p2 g.cl, fun j hj => ?_⟩, fun j hj q' x' k h1 h2 h3 h4 h5 => ?_⟩
        · rcases p3 (fun j : Nat => Rch c j (t ++ [b])) (fun h0 => .byte (G.ok n hon) hq hs hb (show ((q.nxt.toNat : Nat) : Int) = q.nxt by omega)) (fun j i h e => .eps h e) j hj with h | h
          · exact g.ok j h
          · exact h
        · by_cases hjn : j < n
          · exact reach_mono _ _ _ _ _ (h j hjn q' x' k h1 h2 h3 h4 h5)
          · obtain rfl : j = n := by omega
            rw [hq] at h2
            injection h2 with h2
            subst h2
            have := p1 (by omega)
            rw [show q.nxt.toNat = k by omega] at this
            exact this
      · rw [same he]
        refine ⟨g, fun j hj q' x' k h1 h2 h3 h4 h5 => ?_⟩
        by_cases hjn : j < n
        · exact h j hjn q' x' k h1 h2 h3 h4 h5
        · obtain rfl : j = n := by omega
          exact absurd ⟨q', x', h1, h2, h3, h4⟩ he
  obtain ⟨g, h⟩ := main (c.st.length - 1) (Nat.le_refl _)
  refine ⟨g, fun j q x k h1 h2 h3 h4 h5 => h j ?_ q x k h1 h2 h3 h4 h5⟩
  have := (List.getElem?_eq_some_iff.1 h1).1
  rw [G.len] at this
  exact this
/-- The places behind a text. -/
def places (c : Cm) (t : List Nat) : List Bool := t.foldl (stepAll c) (startIn c)
theorem places_good (t : List Nat) : Good (c := c) (places c t) t := by
  have : ∀ (u t : List Nat) (S : List Bool), Good (c := c) S t → Good (c := c) (u.foldl (stepAll c) S) (t ++ u) := by
    intro u
    induction u with
    | nil => intro t S h; simpa using h
    | cons b u ih =>
      intro t S h
      rw [List.foldl_cons]
      have := ih (t ++ [b]) _ (step_good V h b).1
      rwa [List.append_assoc] at this
  have h := this t [] _ (start_good V).1
  rwa [List.nil_append] at h
theorem rch_on {j : Nat} {t : List Nat} (h : Rch c j t) : on (places c t) j := by
  induction h with
  | start => exact (start_good V).2
  | eps h e ih => exact (places_good V _).cl _ _ ih e
  | byte h h1 h2 h3 h4 ih =>
    unfold places
    rw [List.foldl_append, List.foldl_cons, List.foldl_nil]
    exact (step_good V (places_good V _) _).2 _ _ _ _ ih h1 h2 h3 h4
theorem match_rch (t : List Nat) : matchC c t = true ↔ Rch c (endOf c).toNat t := by
  unfold matchC
  rw [decide_eq_true_iff]
  exact ⟨fun h => (places_good V t).ok _ h, fun h => rch_on V h⟩
omit V in
theorem rch_acc {fin : Nat} {j : Nat} {t : List Nat} (h : Rch c j t) : ∀ n u, AccN c.st fin n j u → ∃ m, AccN c.st fin m c.a (t ++ u) := by
  induction h with
  | start => intro n u hu; exact ⟨n, hu⟩
  | eps h e ih =>
    intro n u hu
    obtain ⟨q, hq, hs, e | e⟩ := e
    · exact ih (n + 1) u ⟨by omega, q, by rw [Int.toNat_natCast]; exact hq, .inl ⟨hs, .inl (by rw [← e]; exact hu)⟩⟩
    · exact ih (n + 1) u ⟨by omega, q, by rw [Int.toNat_natCast]; exact hq, .inl ⟨hs, .inr (by rw [← e]; exact hu)⟩⟩
  | byte h h1 h2 h3 h4 ih =>
    intro n u hu
    rw [List.append_assoc]
    exact ih (n + 1) _ ⟨by omega, _, by rw [Int.toNat_natCast]; exact h1, .inr ⟨_, _, u, h2, rfl, h3, by rw [← h4]; exact hu⟩⟩
omit V in
theorem acc_rch {fin : Nat} : ∀ n (j : Nat) t u, Rch c j t → AccN c.st fin n j u → Rch c fin (t ++ u) := by
  intro n
  induction n with
  | zero =>
    intro j t u h hu
    obtain ⟨e, rfl⟩ := hu
    rw [List.append_nil]
    have : j = fin := by omega
    rwa [← this]
  | succ n ih =>
    intro j t u h hu
    obtain ⟨_, q, hq, hu⟩ := hu
    rw [Int.toNat_natCast] at hq
    have pos : ∀ v w, AccN c.st fin n v w → 0 ≤ v := fun v w hv => by
      cases n with
      | zero => have := hv.1; omega
      | succ n => exact hv.1
    rcases hu with ⟨hs, hu | hu⟩ | ⟨x, b, u', hs, rfl, hb, hu⟩
    · have := pos _ _ hu
      obtain ⟨k, hk⟩ : ∃ k : Nat, (k : Int) = q.nxt := ⟨q.nxt.toNat, by omega⟩
      exact ih k t u (.eps h ⟨q, hq, hs, .inl hk⟩) (by rw [hk]; exact hu)
    · have := pos _ _ hu
      obtain ⟨k, hk⟩ : ∃ k : Nat, (k : Int) = q.oth := ⟨q.oth.toNat, by omega⟩
      exact ih k t u (.eps h ⟨q, hq, hs, .inr hk⟩) (by rw [hk]; exact hu)
    · have := pos _ _ hu
      obtain ⟨k, hk⟩ : ∃ k : Nat, (k : Int) = q.nxt := ⟨q.nxt.toNat, by omega⟩
      have := ih k (t ++ [b]) u' (.byte h hq hs hb hk) (by rw [hk]; exact hu)
      rwa [List.append_assoc] at this
end
/-- A pattern's states match just the texts that are like it. -/
theorem match_lang (r : Re) (hs : Sets r) (t : List Nat) : matchC (comp r) t = true ↔ Lang r t := by
  have V := comp_val r hs
  have he : (endOf (comp r)).toNat = (gen r []).1.z := by
    unfold endOf
    have hl : (comp r).st.length = (gen r []).2.length + 1 := by simp [comp]
    rw [hl]
    simp only [comp, Nat.add_sub_cancel]
    rw [app_at]
    simp
  rw [match_rch V, he, ← comp_lang]
  constructor
  · intro h
    obtain ⟨m, hm⟩ := rch_acc h 0 [] ⟨rfl, rfl⟩
    exact ⟨m, by rwa [List.append_nil] at hm⟩
  · rintro ⟨n, h⟩
    have := acc_rch n _ [] t .start h
    simpa using this
end Go.Proofs.Ytnidjfmbbfoheaa.Rx
