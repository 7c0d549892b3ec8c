/- PLAIN: places; what rises; the document's table as a list. -/
import Derived.Test.YtnlpgjdgiappcaaMbPure2
namespace Go.Proofs.Ytnlpgjdgiappcaa.Pl
set_option linter.unusedVariables false
set_option linter.unusedSimpArgs false

theorem listT_sorted {self : Int} {f : Tab} (hf : TOk self f) : (listT f).Pairwise (fun a b => a.n < b.n) := by
  unfold listT
  rw [List.pairwise_filterMap]
  refine List.Pairwise.imp ?_ List.pairwise_lt_range
  intro a b hab x hx y hy
  have h1 := (hf.at_ a x hx).2.1
  have h2 := (hf.at_ b y hy).2.1
  omega

theorem thereT_sorted {self : Int} {f : Tab} (hf : TOk self f) : (thereT f).Pairwise (· < ·) := by
  unfold thereT
  rw [List.pairwise_map]
  exact (listT_sorted hf).filter _

theorem sorted_below (l : List Int) (h : l.Pairwise (· < ·)) : ∀ (i : Nat) (hi : i < l.length), (l.filter (fun n => decide (n < l[i]))).length = i := by
  induction l with
  | nil => intro i hi; simp at hi
  | cons a l ih =>
    intro i hi
    rw [List.pairwise_cons] at h
    cases i with
    | zero =>
      simp only [List.getElem_cons_zero]
      rw [List.filter_cons_of_neg (by simp), List.filter_eq_nil_iff.2]
      · rfl
      · intro b hb; have := h.1 b hb; simp; omega
    | succ i =>
      simp only [List.getElem_cons_succ]
      rw [List.filter_cons_of_pos (by simpa using h.1 _ (List.getElem_mem _))]
      simp only [List.length_cons]
      rw [ih h.2 i (by simpa using hi)]

theorem place {self : Int} {f : Tab} (hf : TOk self f) (i : Nat) (hi : i < (thereT f).length) (x : Int) (hx : (thereT f)[i] = x) (g : Tab) (hg : listT g = listT f) : posT x g = i := by
  unfold posT
  have e : thereT g = thereT f := by unfold thereT; rw [hg]
  rw [e, ← hx]
  exact sorted_below _ (thereT_sorted hf) i hi

/-- The node itself is alive, or can't be any more. -/
def Me (self : Int) (f : Tab) : Prop := ∀ m, f self.toNat = some m → m.s = 0 ∨ ¬ m.i < 1073741824
theorem newT_me (self : Int) : Me self (newT self) := by
  intro m h; simp [newT] at h; subst h; exact .inl rfl
theorem heard_me {self : Int} {f : Tab} {m : M} (h : Me self f) (hf : TOk self f) (hm : MOk m) : Me self (heard self f m) := by
  intro y hy
  unfold heard at hy
  cases hx : hear self f m with
  | some x =>
    rw [hx] at hy
    obtain ⟨_, rfl⟩ := hear_some hx
    simp only at hy
    unfold put at hy
    split at hy
    · rename_i hk
      injection hy with hy
      subst hy
      rw [bump_n] at hk
      have := hm.n0
      have := hf.self0
      have e : m.n = self := by omega
      unfold bump
      split
      · exact .inl rfl
      · rename_i hb
        by_cases hs : m.s = 0
        · exact .inl hs
        · exact .inr fun hi => hb ⟨e, hs, hi⟩
    · exact h y hy
  | none => rw [hx] at hy; exact h y hy

/-- What is there does not go away, and is not below what it was. -/
theorem heard_rises {self : Int} {f : Tab} {m o : M} {k : Nat} (h : f k = some o) : ∃ y, heard self f m k = some y ∧ above o y = false := by
  by_cases hk : m.n.toNat = k
  · unfold heard
    cases hx : hear self f m with
    | some x =>
      refine ⟨x, by obtain ⟨_, rfl⟩ := hear_some hx; simp [put, bump_n, hk], ?_⟩
      unfold hear at hx
      rw [hk, h] at hx
      split at hx
      · simp only at hx
        split at hx
        · rename_i ha
          injection hx with hx
          subst hx
          unfold bump
          split
          · unfold above at *
            split at ha <;> split <;> simp at * <;> omega
          · exact above_asymm ha
        · cases hx
      · cases hx
    | none => exact ⟨o, h, above_irrefl o⟩
  · exact ⟨o, by rw [heard_other hk]; exact h, above_irrefl o⟩

theorem heard_least {self : Int} {f : Tab} {m : M} (h : mayM m = true) : ∃ y, heard self f m m.n.toNat = some y ∧ above m y = false := by
  have hb : above m (bump self m) = false := by
    unfold bump
    split
    · unfold above; split <;> simp at * <;> omega
    · exact above_irrefl m
  unfold heard
  cases hx : hear self f m with
  | some x =>
    obtain ⟨_, rfl⟩ := hear_some hx
    exact ⟨_, by simp [put, bump_n], hb⟩
  | none =>
    unfold hear at hx
    rw [if_pos h] at hx
    split at hx
    · rename_i o ho
      split at hx
      · cases hx
      · rename_i ha
        exact ⟨o, ho, by simpa using ha⟩
    · cases hx

/-! ### the document's table: a list by rising nodes -/
def findL (l : List M) (n : Int) : Option M := l.find? (fun m => decide (m.n = n))
def setStep (m : M) (p : List M × Bool) (x : M) : List M × Bool :=
  let q := if !p.2 && decide (m.n ≤ x.n) then (p.1 ++ [m], true) else p
  if x.n ≠ m.n then (q.1 ++ [x], q.2) else q
def setL (l : List M) (m : M) : List M :=
  let p := l.foldl (setStep m) ([], false)
  if p.2 then p.1 else p.1 ++ [m]

theorem split_list (f : Tab) (k : Nat) (hk : k < 64) : listT f = (List.range k).filterMap f ++ ((f k).toList ++ (List.range' (k + 1) (63 - k)).filterMap f) := by
  unfold listT
  have e : List.range 64 = List.range k ++ (k :: List.range' (k + 1) (63 - k)) := by
    rw [List.range_eq_range', List.range_eq_range', ← List.range'_succ]
    have := @List.range'_append_1 0 k (63 - k + 1)
    rw [Nat.zero_add] at this
    rw [this]
    congr 1
    omega
  rw [e, List.filterMap_append, List.filterMap_cons]
  cases f k <;> rfl

theorem mem_low {self : Int} {f : Tab} (hf : TOk self f) {k : Nat} {m : M} (h : m ∈ (List.range k).filterMap f) : m.n < k := by
  obtain ⟨j, hj, hm⟩ := List.mem_filterMap.1 h
  have := (hf.at_ j m hm).2.1
  have := List.mem_range.1 hj
  omega
theorem mem_high {self : Int} {f : Tab} (hf : TOk self f) {k c : Nat} {m : M} (h : m ∈ (List.range' (k + 1) c).filterMap f) : (k : Int) < m.n := by
  obtain ⟨j, hj, hm⟩ := List.mem_filterMap.1 h
  have := (hf.at_ j m hm).2.1
  have := List.mem_range'_1.1 hj
  omega

theorem find_list {self : Int} {f : Tab} (hf : TOk self f) (n : Int) (h0 : 0 ≤ n) : findL (listT f) n = f n.toNat := by
  unfold findL
  by_cases hk : n.toNat < 64
  · rw [split_list f n.toNat hk, List.find?_append]
    rw [List.find?_eq_none.2 (fun m hm => by have := mem_low hf hm; simp; omega), Option.none_or, List.find?_append]
    rw [List.find?_eq_none (l := (List.range' _ _).filterMap f).2 (fun m hm => by have := mem_high hf hm; simp; omega), Option.or_none]
    cases h : f n.toNat with
    | none => rfl
    | some m =>
      have := (hf.at_ _ m h).2.1
      simp
      omega
  · rw [List.find?_eq_none.2]
    · cases h : f n.toNat with
      | none => rfl
      | some m => exact absurd (hf.at_ _ m h).1 hk
    · intro m hm
      have h1 := listT_mem hf hm
      have := (hf.at_ _ m h1)
      simp
      omega

theorem fold_low (m : M) (l : List M) (h : ∀ x ∈ l, x.n < m.n) : ∀ out, l.foldl (setStep m) (out, false) = (out ++ l, false) := by
  induction l with
  | nil => intro out; simp
  | cons x l ih =>
    intro out
    have hx := h x (by simp)
    have e : setStep m (out, false) x = (out ++ [x], false) := by
      have h1 : ¬ m.n ≤ x.n := by omega
      have h2 : x.n ≠ m.n := by omega
      simp [setStep, h1, h2]
    rw [List.foldl_cons, e, ih (fun y hy => h y (by simp [hy]))]
    simp
theorem fold_high (m : M) (l : List M) (h : ∀ x ∈ l, m.n < x.n) : ∀ out, l.foldl (setStep m) (out, true) = (out ++ l, true) := by
  induction l with
  | nil => intro out; simp
  | cons x l ih =>
    intro out
    have hx := h x (by simp)
    have e : setStep m (out, true) x = (out ++ [x], true) := by
      have h2 : x.n ≠ m.n := by omega
      simp [setStep, h2]
    rw [List.foldl_cons, e, ih (fun y hy => h y (by simp [hy]))]
    simp

theorem set_high (m : M) (l : List M) (h : ∀ x ∈ l, m.n < x.n) (out : List M) : (let p := l.foldl (setStep m) (out, false); if p.2 then p.1 else p.1 ++ [m]) = out ++ m :: l := by
  cases l with
  | nil => simp
  | cons x l =>
    have hx := h x (by simp)
    have e : setStep m (out, false) x = (out ++ [m] ++ [x], true) := by
      have h1 : m.n ≤ x.n := by omega
      have h2 : x.n ≠ m.n := by omega
      simp [setStep, h1, h2]
    rw [List.foldl_cons, e, fold_high m l (fun y hy => h y (by simp [hy]))]
    simp

theorem filterMap_same {α β : Type} {f g : α → Option β} {l : List α} (h : ∀ x ∈ l, f x = g x) : l.filterMap f = l.filterMap g := by
  induction l with
  | nil => rfl
  | cons a l ih => rw [List.filterMap_cons, List.filterMap_cons, h a (by simp), ih (fun x hx => h x (by simp [hx]))]

theorem set_list {self : Int} {f : Tab} (hf : TOk self f) (m : M) (h0 : 0 ≤ m.n) (h1 : m.n < 64) : setL (listT f) m = listT (put f m) := by
  have hk : m.n.toNat < 64 := by omega
  have hlow : ∀ x ∈ (List.range m.n.toNat).filterMap f, x.n < m.n := fun x hx => by have := mem_low hf hx; omega
  have hhigh : ∀ x ∈ (List.range' (m.n.toNat + 1) (63 - m.n.toNat)).filterMap f, m.n < x.n := fun x hx => by have := mem_high hf hx; omega
  have e1 : (List.range m.n.toNat).filterMap (put f m) = (List.range m.n.toNat).filterMap f := by
    refine filterMap_same fun j hj => ?_
    have := List.mem_range.1 hj
    unfold put; rw [if_neg (by omega)]
  have e2 : (List.range' (m.n.toNat + 1) (63 - m.n.toNat)).filterMap (put f m) = (List.range' (m.n.toNat + 1) (63 - m.n.toNat)).filterMap f := by
    refine filterMap_same fun j hj => ?_
    have := List.mem_range'_1.1 hj
    unfold put; rw [if_neg (by omega)]
  rw [split_list f _ hk, split_list (put f m) _ hk, e1, e2]
  have e3 : put f m m.n.toNat = some m := by simp [put]
  rw [e3]
  unfold setL
  rw [List.foldl_append, fold_low m _ hlow, List.nil_append]
  cases h : f m.n.toNat with
  | none =>
    simp only [Option.toList, List.nil_append]
    exact set_high m _ hhigh _
  | some o =>
    have ho := (hf.at_ _ o h).2.1
    have e : ∀ out, setStep m (out, false) o = (out ++ [m], true) := by
      intro out
      have h1 : m.n ≤ o.n := by omega
      have h2 : o.n = m.n := by omega
      simp [setStep, h2]
    simp only [Option.toList, List.singleton_append, List.foldl_cons, e]
    rw [fold_high m _ hhigh]
    simp

end Go.Proofs.Ytnlpgjdgiappcaa.Pl
