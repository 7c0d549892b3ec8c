/- PLAIN LAW: the states of a pattern lead to the end with just the texts that are like it. -/
import Derived.Test.YtnidjfmbbfoheaaRxA
namespace Go.Proofs.Ytnidjfmbbfoheaa.Rx
set_option linter.unusedVariables false
set_option linter.unusedSimpArgs false

inductive Lang : Re → List Nat → Prop
  | set {x : List Bool} {c : Nat} : x[c]? = some true → Lang (.set x) [c]
  | nil : Lang .nil []
  | cat {a b s t} : Lang a s → Lang b t → Lang (.cat a b) (s ++ t)
  | altl {a b s} : Lang a s → Lang (.alt a b) s
  | altr {a b s} : Lang b s → Lang (.alt a b) s
  | star0 {a} : Lang (.star a) []
  | starS {a s t} : Lang a s → Lang (.star a) t → Lang (.star a) (s ++ t)
  | plus1 {a s} : Lang a s → Lang (.plus a) s
  | plusS {a s t} : Lang a s → Lang (.plus a) t → Lang (.plus a) (s ++ t)
  | opt0 {a} : Lang (.opt a) []
  | optS {a s} : Lang a s → Lang (.opt a) s
  | junk {a s} : Lang a s → Lang (.junk a) s

/-- From place k, in n moves, to the end. -/
def AccN (F : List St) (fin : Nat) : Nat → Int → List Nat → Prop
  | 0, k, t => k = (fin : Int) ∧ t = []
  | n + 1, k, t => 0 ≤ k ∧ ∃ q, F[k.toNat]? = some q ∧
      ((q.set = none ∧ (AccN F fin n q.nxt t ∨ AccN F fin n q.oth t)) ∨ ∃ x c t', q.set = some x ∧ t = c :: t' ∧ x[c]? = some true ∧ AccN F fin n q.nxt t')
section
variable {F : List St} {fin : Nat}
theorem acc_neg {n : Nat} {t : List Nat} (h : AccN F fin n (-1) t) : False := by
  cases n with
  | zero => have := h.1; omega
  | succ n => have := h.1; omega
theorem acc_eps {k : Nat} {u v : Int} (hk : F[k]? = some ⟨none, u, v⟩) (hf : fin ≠ k) {n : Nat} {t : List Nat} (h : AccN F fin n k t) : ∃ m, m < n ∧ (AccN F fin m u t ∨ AccN F fin m v t) := by
  cases n with
  | zero => have := h.1; omega
  | succ n =>
    obtain ⟨_, q, hq, h⟩ := h
    rw [Int.toNat_natCast, hk] at hq
    injection hq with hq
    subst hq
    rcases h with ⟨_, h⟩ | ⟨x, c, t', h, _⟩
    · exact ⟨n, by omega, h⟩
    · cases h
theorem acc_eps_l {k : Nat} {u v : Int} (hk : F[k]? = some ⟨none, u, v⟩) {n : Nat} {t : List Nat} (h : AccN F fin n u t) : AccN F fin (n + 1) k t :=
  ⟨by omega, _, by rw [Int.toNat_natCast]; exact hk, .inl ⟨rfl, .inl h⟩⟩
theorem acc_eps_r {k : Nat} {u v : Int} (hk : F[k]? = some ⟨none, u, v⟩) {n : Nat} {t : List Nat} (h : AccN F fin n v t) : AccN F fin (n + 1) k t :=
  ⟨by omega, _, by rw [Int.toNat_natCast]; exact hk, .inl ⟨rfl, .inr h⟩⟩
end

/-- What leads from a to z is like r. -/
structure Frag (F : List St) (fin : Nat) (r : Re) (a z : Nat) : Prop where
  sound : ∀ n t, AccN F fin n a t → ∃ t1 t2 m, t = t1 ++ t2 ∧ Lang r t1 ∧ m ≤ n ∧ AccN F fin m z t2
  comp : ∀ t1 t2 m, Lang r t1 → AccN F fin m z t2 → ∃ n, AccN F fin n a (t1 ++ t2)

theorem nextAt_length (st : List St) (k : Nat) (v : Int) : (nextAt st k v).length = st.length := by simp [nextAt]
theorem otherAt_length (st : List St) (k : Nat) (v : Int) : (otherAt st k v).length = st.length := by simp [otherAt]
theorem nextAt_ne (st : List St) (k : Nat) (v : Int) (i : Nat) (h : i ≠ k) : (nextAt st k v)[i]? = st[i]? := by
  unfold nextAt; rw [List.getElem?_modify]; cases st[i]? <;> simp; exact fun e => absurd e.symm h
theorem otherAt_ne (st : List St) (k : Nat) (v : Int) (i : Nat) (h : i ≠ k) : (otherAt st k v)[i]? = st[i]? := by
  unfold otherAt; rw [List.getElem?_modify]; cases st[i]? <;> simp; exact fun e => absurd e.symm h
theorem nextAt_eq (st : List St) (k : Nat) (v : Int) (q : St) (h : st[k]? = some q) : (nextAt st k v)[k]? = some { q with nxt := v } := by
  unfold nextAt; rw [List.getElem?_modify, h]; simp
theorem otherAt_eq (st : List St) (k : Nat) (v : Int) (q : St) (h : st[k]? = some q) : (otherAt st k v)[k]? = some { q with oth := v } := by
  unfold otherAt; rw [List.getElem?_modify, h]; simp

structure GenOk (st : List St) (p : Pc) (st' : List St) : Prop where
  a0 : st.length ≤ p.a
  a1 : p.a < st'.length
  z0 : st.length ≤ p.z
  z1 : p.z < st'.length
  pre : ∀ i, i < st.length → st'[i]? = st[i]?
  z : st'[p.z]? = some free
theorem app_l {α : Type} (l m : List α) {i : Nat} (h : i < l.length) : (l ++ m)[i]? = l[i]? := List.getElem?_append_left h
theorem app_at {α : Type} (l : List α) (x : α) : (l ++ [x])[l.length]? = some x := by simp
theorem app_at' {α : Type} (l : List α) (x : α) {i : Nat} (h : i = l.length) : (l ++ [x])[i]? = some x := by subst h; simp

theorem gen_ok (r : Re) : ∀ st, GenOk st (gen r st).1 (gen r st).2 := by
  induction r with
  | set x =>
    intro st
    refine ⟨by simp [gen], by simp [gen], by simp [gen], by simp [gen], fun i hi => ?_, ?_⟩
    · simp only [gen]; rw [app_l _ _ (by simp; omega), app_l _ _ hi]
    · simp only [gen]; rw [app_l _ _ (by simp), app_at]
  | nil =>
    intro st
    refine ⟨by simp [gen], by simp [gen], by simp [gen], by simp [gen], fun i hi => ?_, ?_⟩
    · simp only [gen]; rw [app_l _ _ hi]
    · simp only [gen]; rw [app_at]
  | cat a b iha ihb =>
    intro st
    have ha := iha st
    have hb := ihb (gen a st).2
    obtain ⟨a0, a1, a2, a3, a4, a5⟩ := ha
    obtain ⟨b0, b1, b2, b3, b4, b5⟩ := hb
    refine ⟨?_, ?_, ?_, ?_, fun i hi => ?_, ?_⟩
    · simp only [gen]; omega
    · simp only [gen, nextAt_length]; omega
    · simp only [gen]; omega
    · simp only [gen, nextAt_length]; omega
    · simp only [gen]; rw [nextAt_ne _ _ _ _ (by omega), b4 i (by omega), a4 i hi]
    · simp only [gen]; rw [nextAt_ne _ _ _ _ (by omega), b5]
  | alt a b iha ihb =>
    intro st
    have ha := iha st
    have hb := ihb (gen a st).2
    obtain ⟨a0, a1, a2, a3, a4, a5⟩ := ha
    obtain ⟨b0, b1, b2, b3, b4, b5⟩ := hb
    refine ⟨?_, ?_, ?_, ?_, fun i hi => ?_, ?_⟩
    · simp only [gen]; omega
    · simp only [gen, List.length_append, nextAt_length, List.length_cons, List.length_nil]; omega
    · simp only [gen]; omega
    · simp only [gen, List.length_append, nextAt_length, List.length_cons, List.length_nil]; omega
    · simp only [gen]
      rw [app_l _ _ (by simp only [nextAt_length, List.length_append, List.length_cons, List.length_nil]; omega), nextAt_ne _ _ _ _ (by omega), nextAt_ne _ _ _ _ (by omega), app_l _ _ (by omega), b4 i (by omega), a4 i hi]
    · simp only [gen]
      rw [app_l _ _ (by simp only [nextAt_length, List.length_append, List.length_cons, List.length_nil]; omega), nextAt_ne _ _ _ _ (by omega), nextAt_ne _ _ _ _ (by omega), app_at]
  | star a ih =>
    intro st
    obtain ⟨a0, a1, a2, a3, a4, a5⟩ := ih st
    refine ⟨?_, ?_, ?_, ?_, fun i hi => ?_, ?_⟩
    · simp only [gen]; omega
    · simp only [gen, List.length_append, nextAt_length, otherAt_length, List.length_cons, List.length_nil]; omega
    · simp only [gen]; omega
    · simp only [gen, List.length_append, nextAt_length, otherAt_length, List.length_cons, List.length_nil]; omega
    · simp only [gen]
      rw [app_l _ _ (by simp only [nextAt_length, otherAt_length, List.length_append, List.length_cons, List.length_nil]; omega), otherAt_ne _ _ _ _ (by omega), nextAt_ne _ _ _ _ (by omega), app_l _ _ (by omega), a4 i hi]
    · simp only [gen]
      rw [app_l _ _ (by simp only [nextAt_length, otherAt_length, List.length_append, List.length_cons, List.length_nil]; omega), otherAt_ne _ _ _ _ (by omega), nextAt_ne _ _ _ _ (by omega), app_at]
  | plus a ih =>
    intro st
    obtain ⟨a0, a1, a2, a3, a4, a5⟩ := ih st
    refine ⟨?_, ?_, ?_, ?_, fun i hi => ?_, ?_⟩
    · simp only [gen]; omega
    · simp only [gen, List.length_append, nextAt_length, otherAt_length, List.length_cons, List.length_nil]; omega
    · simp only [gen]; omega
    · simp only [gen, List.length_append, nextAt_length, otherAt_length, List.length_cons, List.length_nil]; omega
    · simp only [gen]
      rw [otherAt_ne _ _ _ _ (by omega), nextAt_ne _ _ _ _ (by omega), app_l _ _ (by omega), a4 i hi]
    · simp only [gen]
      rw [otherAt_ne _ _ _ _ (by omega), nextAt_ne _ _ _ _ (by omega), app_at]
  | opt a ih =>
    intro st
    obtain ⟨a0, a1, a2, a3, a4, a5⟩ := ih st
    refine ⟨?_, ?_, ?_, ?_, fun i hi => ?_, ?_⟩
    · simp only [gen]; omega
    · simp only [gen, List.length_append, nextAt_length, otherAt_length, List.length_cons, List.length_nil]; omega
    · simp only [gen]; omega
    · simp only [gen, List.length_append, nextAt_length, otherAt_length, List.length_cons, List.length_nil]; omega
    · simp only [gen]
      rw [app_l _ _ (by simp only [nextAt_length, otherAt_length, List.length_append, List.length_cons, List.length_nil]; omega), nextAt_ne _ _ _ _ (by omega), app_l _ _ (by omega), a4 i hi]
    · simp only [gen]
      rw [app_l _ _ (by simp only [nextAt_length, otherAt_length, List.length_append, List.length_cons, List.length_nil]; omega), nextAt_ne _ _ _ _ (by omega), app_at]
  | junk a ih =>
    intro st
    obtain ⟨a0, a1, a2, a3, a4, a5⟩ := ih st
    refine ⟨a0, ?_, a2, ?_, fun i hi => ?_, ?_⟩
    · simp only [gen, List.length_append, List.length_cons, List.length_nil]; omega
    · simp only [gen, List.length_append, List.length_cons, List.length_nil]; omega
    · simp only [gen]; rw [app_l _ _ (by omega), a4 i hi]
    · simp only [gen]; rw [app_l _ _ (by omega), a5]

/-- The states from st on are F's, but the end's. -/
def Fits (F : List St) (fin : Nat) (st : List St) (p : Pc) (st' : List St) : Prop :=
  ∀ i, st.length ≤ i → i < st'.length → i ≠ p.z → F[i]? = st'[i]? ∧ fin ≠ i

theorem frag_of (F : List St) (fin : Nat) (r : Re) : ∀ st, Fits F fin st (gen r st).1 (gen r st).2 → Frag F fin r (gen r st).1.a (gen r st).1.z := by
  induction r with
  | set x =>
    intro st h
    simp only [gen] at h ⊢
    have h1 := h (st.length + 1) (by omega) (by simp) (by simp)
    have e1 : (st ++ [free] ++ [(⟨some x, (st.length : Int), -1⟩ : St)])[st.length + 1]? = some ⟨some x, st.length, -1⟩ := app_at' _ _ (by simp)
    rw [e1] at h1
    obtain ⟨h1, h2⟩ := h1
    refine ⟨fun n t ht => ?_, fun t1 t2 m hl ht => ?_⟩
    · cases n with
      | zero => have := ht.1; omega
      | succ n =>
        obtain ⟨_, q, hq, ht⟩ := ht
        rw [Int.toNat_natCast, h1] at hq
        injection hq with hq
        subst hq
        rcases ht with ⟨h, _⟩ | ⟨y, c, t', hy, rfl, hc, ht⟩
        · cases h
        · injection hy with hy
          subst hy
          exact ⟨[c], t', n, rfl, .set hc, by omega, ht⟩
    · cases hl with
      | set hc => exact ⟨m + 1, by omega, _, by rw [Int.toNat_natCast]; exact h1, .inr ⟨_, _, _, rfl, rfl, hc, ht⟩⟩
  | nil =>
    intro st h
    simp only [gen] at h ⊢
    exact ⟨fun n t ht => ⟨[], t, n, rfl, .nil, Nat.le_refl _, ht⟩, fun t1 t2 m hl ht => by cases hl; exact ⟨m, ht⟩⟩
  | cat a b iha ihb =>
    intro st h
    have ga := gen_ok a st
    have gb := gen_ok b (gen a st).2
    simp only [gen] at h ⊢
    obtain ⟨a0, a1, a2, a3, a4, a5⟩ := ga
    obtain ⟨b0, b1, b2, b3, b4, b5⟩ := gb
    have fa := iha st (fun i hi1 hi2 hi3 => by
      obtain ⟨q1, q2⟩ := h i hi1 (by rw [nextAt_length]; omega) (by simp only; omega)
      refine ⟨?_, q2⟩
      rw [q1, nextAt_ne _ _ _ _ hi3, b4 i hi2])
    have fb := ihb (gen a st).2 (fun i hi1 hi2 hi3 => by
      obtain ⟨q1, q2⟩ := h i (by omega) (by rw [nextAt_length]; omega) hi3
      refine ⟨?_, q2⟩
      rw [q1, nextAt_ne _ _ _ _ (by omega)])
    obtain ⟨q1, q2⟩ := h (gen a st).1.z (by omega) (by rw [nextAt_length]; omega) (by simp only; omega)
    rw [nextAt_eq _ _ _ free (by rw [b4 _ a3, a5])] at q1
    simp only [free] at q1
    refine ⟨fun n t ht => ?_, fun t1 t2 m hl ht => ?_⟩
    · obtain ⟨t1, t2, m, rfl, l1, hm, h1⟩ := fa.sound n t ht
      obtain ⟨m2, hm2, h2 | h2⟩ := acc_eps q1 q2 h1
      · obtain ⟨t3, t4, m3, rfl, l2, hm3, h3⟩ := fb.sound m2 t2 h2
        exact ⟨t1 ++ t3, t4, m3, by simp, .cat l1 l2, by omega, h3⟩
      · exact (acc_neg h2).elim
    · cases hl with
      | cat l1 l2 =>
        obtain ⟨n1, h1⟩ := fb.comp _ _ _ l2 ht
        obtain ⟨n2, h2⟩ := fa.comp _ _ _ l1 (acc_eps_l q1 h1)
        exact ⟨n2, by rw [List.append_assoc]; exact h2⟩
  | alt a b iha ihb =>
    intro st h
    have ga := gen_ok a st
    have gb := gen_ok b (gen a st).2
    simp only [gen] at h ⊢
    obtain ⟨a0, a1, a2, a3, a4, a5⟩ := ga
    obtain ⟨b0, b1, b2, b3, b4, b5⟩ := gb
    have hlen : (nextAt (nextAt ((gen b (gen a st).2).2 ++ [free]) (gen a st).1.z (gen b (gen a st).2).2.length) (gen b (gen a st).2).1.z (gen b (gen a st).2).2.length).length = (gen b (gen a st).2).2.length + 1 := by simp only [nextAt_length, List.length_append, List.length_cons, List.length_nil]
    have fa := iha st (fun i hi1 hi2 hi3 => by
      obtain ⟨q1, q2⟩ := h i hi1 (by rw [List.length_append, hlen]; omega) (by simp only; omega)
      refine ⟨?_, q2⟩
      rw [q1, app_l _ _ (by rw [hlen]; omega), nextAt_ne _ _ _ _ (by omega), nextAt_ne _ _ _ _ hi3, app_l _ _ (by omega), b4 i hi2])
    have fb := ihb (gen a st).2 (fun i hi1 hi2 hi3 => by
      obtain ⟨q1, q2⟩ := h i (by omega) (by rw [List.length_append, hlen]; omega) (by simp only; omega)
      refine ⟨?_, q2⟩
      rw [q1, app_l _ _ (by rw [hlen]; omega), nextAt_ne _ _ _ _ hi3, nextAt_ne _ _ _ _ (by omega), app_l _ _ (by omega)])
    have qa := h (gen a st).1.z (by omega) (by rw [List.length_append, hlen]; omega) (by simp only; omega)
    rw [app_l _ _ (by rw [hlen]; omega), nextAt_ne _ _ _ _ (by omega), nextAt_eq _ _ _ free (by rw [app_l _ _ (by omega), b4 _ a3, a5])] at qa
    have qb := h (gen b (gen a st).2).1.z (by omega) (by rw [List.length_append, hlen]; omega) (by simp only; omega)
    rw [app_l _ _ (by rw [hlen]; omega), nextAt_eq _ _ _ free (by rw [nextAt_ne _ _ _ _ (by omega), app_l _ _ (by omega), b5])] at qb
    have qs := h ((gen b (gen a st).2).2.length + 1) (by omega) (by rw [List.length_append, hlen]; simp) (by simp only; omega)
    rw [app_at' _ _ (by rw [hlen])] at qs
    simp only [free] at qa qb
    obtain ⟨qa, qa2⟩ := qa
    obtain ⟨qb, qb2⟩ := qb
    obtain ⟨qs, qs2⟩ := qs
    refine ⟨fun n t ht => ?_, fun t1 t2 m hl ht => ?_⟩
    · obtain ⟨m, hm, h1 | h1⟩ := acc_eps qs qs2 ht
      · obtain ⟨t1, t2, m2, rfl, l1, hm2, h2⟩ := fa.sound m t h1
        obtain ⟨m3, hm3, h3 | h3⟩ := acc_eps qa qa2 h2
        · exact ⟨t1, t2, m3, rfl, .altl l1, by omega, h3⟩
        · exact (acc_neg h3).elim
      · obtain ⟨t1, t2, m2, rfl, l1, hm2, h2⟩ := fb.sound m t h1
        obtain ⟨m3, hm3, h3 | h3⟩ := acc_eps qb qb2 h2
        · exact ⟨t1, t2, m3, rfl, .altr l1, by omega, h3⟩
        · exact (acc_neg h3).elim
    · cases hl with
      | altl l1 =>
        obtain ⟨n1, h1⟩ := fa.comp _ _ _ l1 (acc_eps_l qa ht)
        exact ⟨n1 + 1, acc_eps_l qs h1⟩
      | altr l1 =>
        obtain ⟨n1, h1⟩ := fb.comp _ _ _ l1 (acc_eps_l qb ht)
        exact ⟨n1 + 1, acc_eps_r qs h1⟩
  | star a ih =>
    intro st h
    have ga := gen_ok a st
    simp only [gen] at h ⊢
    obtain ⟨a0, a1, a2, a3, a4, a5⟩ := ga
    have hlen : (otherAt (nextAt ((gen a st).2 ++ [free]) (gen a st).1.z (gen a st).1.a) (gen a st).1.z (gen a st).2.length).length = (gen a st).2.length + 1 := by simp only [nextAt_length, otherAt_length, List.length_append, List.length_cons, List.length_nil]
    have fa := ih st (fun i hi1 hi2 hi3 => by
      obtain ⟨q1, q2⟩ := h i hi1 (by rw [List.length_append, hlen]; omega) (by simp only; omega)
      refine ⟨?_, q2⟩
      rw [q1, app_l _ _ (by rw [hlen]; omega), otherAt_ne _ _ _ _ hi3, nextAt_ne _ _ _ _ hi3, app_l _ _ (by omega)])
    have qa := h (gen a st).1.z (by omega) (by rw [List.length_append, hlen]; omega) (by simp only; omega)
    rw [app_l _ _ (by rw [hlen]; omega), otherAt_eq _ _ _ _ (nextAt_eq _ _ _ free (by rw [app_l _ _ (by omega), a5]))] at qa
    have qs := h ((gen a st).2.length + 1) (by omega) (by rw [List.length_append, hlen]; simp) (by simp only; omega)
    rw [app_at' _ _ (by rw [hlen])] at qs
    simp only [free] at qa
    obtain ⟨qa, qa2⟩ := qa
    obtain ⟨qs, qs2⟩ := qs
    have sub : ∀ n t, AccN F fin n (gen a st).1.z t → ∃ t1 t2 m, t = t1 ++ t2 ∧ Lang (.star a) t1 ∧ m ≤ n ∧ AccN F fin m ((gen a st).2.length : Nat) t2 := by
      intro n
      induction n using Nat.strongRecOn with
      | ind n IH =>
        intro t ht
        obtain ⟨m, hm, h1 | h1⟩ := acc_eps qa qa2 ht
        · obtain ⟨t1, t2, m2, rfl, l1, hm2, h2⟩ := fa.sound m t h1
          obtain ⟨t3, t4, m3, rfl, l2, hm3, h3⟩ := IH m2 (by omega) t2 h2
          exact ⟨t1 ++ t3, t4, m3, by simp, .starS l1 l2, by omega, h3⟩
        · exact ⟨[], t, m, rfl, .star0, by omega, h1⟩
    have sup : ∀ t1, Lang (.star a) t1 → ∀ t2 m, AccN F fin m ((gen a st).2.length : Nat) t2 → ∃ n, AccN F fin n (gen a st).1.z (t1 ++ t2) := by
      intro t1 hl
      generalize hr : Re.star a = r at hl
      induction hl with
      | star0 => intro t2 m ht; exact ⟨m + 1, acc_eps_r qa ht⟩
      | starS l1 l2 ih1 ih2 =>
        injection hr with hr
        subst hr
        intro t2 m ht
        obtain ⟨n1, h1⟩ := ih2 rfl t2 m ht
        obtain ⟨n2, h2⟩ := fa.comp _ _ _ l1 h1
        exact ⟨n2 + 1, by rw [List.append_assoc]; exact acc_eps_l qa h2⟩
      | _ => cases hr
    refine ⟨fun n t ht => ?_, fun t1 t2 m hl ht => ?_⟩
    · obtain ⟨m, hm, h1 | h1⟩ := acc_eps qs qs2 ht
      · obtain ⟨t1, t2, m2, rfl, l1, hm2, h2⟩ := fa.sound m t h1
        obtain ⟨t3, t4, m3, rfl, l2, hm3, h3⟩ := sub m2 t2 h2
        exact ⟨t1 ++ t3, t4, m3, by simp, .starS l1 l2, by omega, h3⟩
      · exact ⟨[], t, m, rfl, .star0, by omega, h1⟩
    · cases hl with
      | star0 => exact ⟨m + 1, acc_eps_r qs ht⟩
      | starS l1 l2 =>
        obtain ⟨n1, h1⟩ := sup _ l2 t2 m ht
        obtain ⟨n2, h2⟩ := fa.comp _ _ _ l1 h1
        exact ⟨n2 + 1, by rw [List.append_assoc]; exact acc_eps_l qs h2⟩
  | plus a ih =>
    intro st h
    have ga := gen_ok a st
    simp only [gen] at h ⊢
    obtain ⟨a0, a1, a2, a3, a4, a5⟩ := ga
    have hlen : (otherAt (nextAt ((gen a st).2 ++ [free]) (gen a st).1.z (gen a st).1.a) (gen a st).1.z (gen a st).2.length).length = (gen a st).2.length + 1 := by simp only [nextAt_length, otherAt_length, List.length_append, List.length_cons, List.length_nil]
    have fa := ih st (fun i hi1 hi2 hi3 => by
      obtain ⟨q1, q2⟩ := h i hi1 (by rw [hlen]; omega) (by simp only; omega)
      refine ⟨?_, q2⟩
      rw [q1, otherAt_ne _ _ _ _ hi3, nextAt_ne _ _ _ _ hi3, app_l _ _ (by omega)])
    have qa := h (gen a st).1.z (by omega) (by rw [hlen]; omega) (by simp only; omega)
    rw [otherAt_eq _ _ _ _ (nextAt_eq _ _ _ free (by rw [app_l _ _ (by omega), a5]))] at qa
    simp only [free] at qa
    obtain ⟨qa, qa2⟩ := qa
    have sub : ∀ n t, AccN F fin n (gen a st).1.z t → ∃ t1 t2 m, t = t1 ++ t2 ∧ (t1 = [] ∨ Lang (.plus a) t1) ∧ m ≤ n ∧ AccN F fin m ((gen a st).2.length : Nat) t2 := by
      intro n
      induction n using Nat.strongRecOn with
      | ind n IH =>
        intro t ht
        obtain ⟨m, hm, h1 | h1⟩ := acc_eps qa qa2 ht
        · obtain ⟨t1, t2, m2, rfl, l1, hm2, h2⟩ := fa.sound m t h1
          obtain ⟨t3, t4, m3, rfl, l2, hm3, h3⟩ := IH m2 (by omega) t2 h2
          refine ⟨t1 ++ t3, t4, m3, by simp, .inr ?_, by omega, h3⟩
          rcases l2 with rfl | l2
          · rw [List.append_nil]; exact .plus1 l1
          · exact .plusS l1 l2
        · exact ⟨[], t, m, rfl, .inl rfl, by omega, h1⟩
    have sup : ∀ t1, Lang (.plus a) t1 → ∀ t2 m, AccN F fin m ((gen a st).2.length : Nat) t2 → ∃ n, AccN F fin n (gen a st).1.a (t1 ++ t2) := by
      intro t1 hl
      generalize hr : Re.plus a = r at hl
      induction hl with
      | plus1 l1 =>
        injection hr with hr
        subst hr
        intro t2 m ht
        exact fa.comp _ _ _ l1 (acc_eps_r qa ht)
      | plusS l1 l2 ih1 ih2 =>
        injection hr with hr
        subst hr
        intro t2 m ht
        obtain ⟨n1, h1⟩ := ih2 rfl t2 m ht
        obtain ⟨n2, h2⟩ := fa.comp _ _ _ l1 (acc_eps_l qa h1)
        exact ⟨n2, by rw [List.append_assoc]; exact h2⟩
      | _ => cases hr
    refine ⟨fun n t ht => ?_, fun t1 t2 m hl ht => sup t1 hl t2 m ht⟩
    obtain ⟨t1, t2, m2, rfl, l1, hm2, h2⟩ := fa.sound n t ht
    obtain ⟨t3, t4, m3, rfl, l2, hm3, h3⟩ := sub m2 t2 h2
    refine ⟨t1 ++ t3, t4, m3, by simp, ?_, by omega, h3⟩
    rcases l2 with rfl | l2
    · rw [List.append_nil]; exact .plus1 l1
    · exact .plusS l1 l2
  | opt a ih =>
    intro st h
    have ga := gen_ok a st
    simp only [gen] at h ⊢
    obtain ⟨a0, a1, a2, a3, a4, a5⟩ := ga
    have hlen : (nextAt ((gen a st).2 ++ [free]) (gen a st).1.z (gen a st).2.length).length = (gen a st).2.length + 1 := by simp only [nextAt_length, otherAt_length, List.length_append, List.length_cons, List.length_nil]
    have fa := ih st (fun i hi1 hi2 hi3 => by
      obtain ⟨q1, q2⟩ := h i hi1 (by rw [List.length_append, hlen]; omega) (by simp only; omega)
      refine ⟨?_, q2⟩
      rw [q1, app_l _ _ (by rw [hlen]; omega), nextAt_ne _ _ _ _ hi3, app_l _ _ (by omega)])
    have qa := h (gen a st).1.z (by omega) (by rw [List.length_append, hlen]; omega) (by simp only; omega)
    rw [app_l _ _ (by rw [hlen]; omega), nextAt_eq _ _ _ free (by rw [app_l _ _ (by omega), a5])] at qa
    have qs := h ((gen a st).2.length + 1) (by omega) (by rw [List.length_append, hlen]; simp) (by simp only; omega)
    rw [app_at' _ _ (by rw [hlen])] at qs
    simp only [free] at qa
    obtain ⟨qa, qa2⟩ := qa
    obtain ⟨qs, qs2⟩ := qs
    refine ⟨fun n t ht => ?_, fun t1 t2 m hl ht => ?_⟩
    · obtain ⟨m, hm, h1 | h1⟩ := acc_eps qs qs2 ht
      · obtain ⟨t1, t2, m2, rfl, l1, hm2, h2⟩ := fa.sound m t h1
        obtain ⟨m3, hm3, h3 | h3⟩ := acc_eps qa qa2 h2
        · exact ⟨t1, t2, m3, rfl, .optS l1, by omega, h3⟩
        · exact (acc_neg h3).elim
      · exact ⟨[], t, m, rfl, .opt0, by omega, h1⟩
    · cases hl with
      | opt0 => exact ⟨m + 1, acc_eps_r qs ht⟩
      | optS l1 =>
        obtain ⟨n1, h1⟩ := fa.comp _ _ _ l1 (acc_eps_l qa ht)
        exact ⟨n1 + 1, acc_eps_l qs h1⟩
  | junk a ih =>
    intro st h
    have ga := gen_ok a st
    simp only [gen] at h ⊢
    obtain ⟨a0, a1, a2, a3, a4, a5⟩ := ga
    have fa := ih st (fun i hi1 hi2 hi3 => by
      obtain ⟨q1, q2⟩ := h i hi1 (by rw [List.length_append]; omega) hi3
      refine ⟨?_, q2⟩
      rw [q1, app_l _ _ hi2])
    refine ⟨fun n t ht => ?_, fun t1 t2 m hl ht => ?_⟩
    · obtain ⟨t1, t2, m2, rfl, l1, hm2, h2⟩ := fa.sound n t ht
      exact ⟨t1, t2, m2, rfl, .junk l1, hm2, h2⟩
    · cases hl with
      | junk l1 => exact fa.comp _ _ _ l1 ht

/-- The states of a pattern lead to the end with just the texts that are like it. -/
theorem comp_lang (r : Re) (t : List Nat) : (∃ n, AccN (comp r).st (gen r []).1.z n (comp r).a t) ↔ Lang r t := by
  have g := gen_ok r []
  obtain ⟨a0, a1, a2, a3, a4, a5⟩ := g
  have f := frag_of (comp r).st (gen r []).1.z r [] (fun i _ hi2 hi3 => by
    refine ⟨?_, fun e => hi3 e.symm⟩
    simp only [comp]
    rw [app_l _ _ hi2])
  have hz : (comp r).st[(gen r []).1.z]? = some free := by
    simp only [comp]
    rw [app_l _ _ a3, a5]
  constructor
  · rintro ⟨n, h⟩
    obtain ⟨t1, t2, m, rfl, l, _, h2⟩ := f.sound n t h
    cases m with
    | zero => rw [h2.2, List.append_nil]; exact l
    | succ m =>
      obtain ⟨_, q, hq, h2⟩ := h2
      rw [Int.toNat_natCast, hz] at hq
      injection hq with hq
      subst hq
      rcases h2 with ⟨_, h2 | h2⟩ | ⟨x, c, t', h2, _⟩
      · exact (acc_neg h2).elim
      · exact (acc_neg h2).elim
      · cases h2
  · intro l
    obtain ⟨n, h⟩ := f.comp t [] 0 l ⟨rfl, rfl⟩
    exact ⟨n, by rw [List.append_nil] at h; exact h⟩
end Go.Proofs.Ytnidjfmbbfoheaa.Rx
