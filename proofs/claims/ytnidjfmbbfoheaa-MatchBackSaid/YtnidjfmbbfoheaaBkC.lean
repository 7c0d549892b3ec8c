/- PLAIN: what is read from a text, and the text of what is read. -/
import Derived.Test.YtnidjfmbbfoheaaBkB
namespace Go.Proofs.Ytnidjfmbbfoheaa
set_option linter.unusedVariables false
set_option linter.unusedSimpArgs false

theorem cand_text {s : List Nat} {n : Nat} {op : Int} (h : preB (signB op) (s.drop n) = true) : textB (candB s n op) = s := by
  unfold textB candB cutB
  simp only [h, if_true]
  unfold preB at h
  rw [decide_eq_true_eq] at h
  conv => rhs; rw [← List.take_append_drop n s, ← List.take_append_drop (signB op).length (s.drop n), h]
  rw [List.append_assoc]
theorem readFrom_is (s : List Nat) (n : Nat) : ∀ l : List Int, (readFrom s n l = (zeroM, 4) ∧ ∀ op ∈ l, hitB s n op = false) ∨ ∃ op ∈ l, readFrom s n l = (candB s n op, 0) ∧ hitB s n op = true := by
  intro l
  induction l with
  | nil => exact .inl ⟨rfl, by simp⟩
  | cons op r ih =>
    unfold readFrom
    by_cases h : hitB s n op = true
    · rw [if_pos h]
      exact .inr ⟨op, by simp, rfl, h⟩
    · rw [if_neg h]
      rcases ih with ⟨h1, h2⟩ | ⟨op', h1, h2, h3⟩
      · refine .inl ⟨h1, fun o ho => ?_⟩
        rcases List.mem_cons.1 ho with rfl | ho
        · simpa using h
        · exact h2 o ho
      · exact .inr ⟨op', by simp [h1], h2, h3⟩
theorem hit_is {s : List Nat} {n : Nat} {op : Int} (h : hitB s n op = true) : preB (signB op) (s.drop n) = true ∧ checkB (candB s n op) = 0 := by
  unfold hitB at h
  simpa using h
theorem ops_range {op : Int} (h : op ∈ opsB) : 0 ≤ op ∧ op ≤ 3 := by
  simp only [opsB, List.mem_cons, List.not_mem_nil, or_false] at h
  omega
/-- What Read tells: no matcher, or one that may be, whose text it is. -/
theorem readB_is (s : List Nat) (hs : ∀ x ∈ s, x < 256) (hl : s.length ≤ 9223372036854775807) : (readB s = (zeroM, 4)) ∨ ((readB s).2 = 0 ∧ textB (readB s).1 = s ∧ checkB (readB s).1 = 0 ∧ (readB s).1.Ok ∧ (readB s).1.n.length ≤ s.length ∧ (readB s).1.v.length ≤ s.length) := by
  unfold readB
  by_cases h : firstB s < 0
  · rw [if_pos h]; exact .inl rfl
  · rw [if_neg h]
    rcases readFrom_is s (firstB s).toNat opsB with ⟨h1, _⟩ | ⟨op, h0, h1, h2⟩
    · exact .inl h1
    · rw [h1]
      obtain ⟨h3, h4⟩ := hit_is h2
      refine .inr ⟨rfl, cand_text h3, h4, candB_ok hs hl _ (ops_range h0).1 (ops_range h0).2, ?_, ?_⟩
      · show (s.take _).length ≤ _
        rw [List.length_take]; omega
      · show (cutB _ (s.drop _)).length ≤ _
        have := cutB_len (signB op) (s.drop (firstB s).toNat)
        rw [List.length_drop] at this
        omega
theorem okc_not {c : Nat} (h : okc c = true) : c ≠ 61 ∧ c ≠ 33 := by
  unfold okc at h
  simp only [Bool.or_eq_true, Bool.and_eq_true, decide_eq_true_eq] at h
  omega
theorem nameB_all {n : List Nat} (h : nameB n = true) : n.length ≤ 16 ∧ ∀ c ∈ n, okc c = true := by
  cases n with
  | nil => cases h
  | cons c r =>
    rw [nameB_cons] at h
    simp only [Bool.and_eq_true, decide_eq_true_eq] at h
    exact ⟨h.1.1, fun x hx => List.all_eq_true.1 h.2 x hx⟩
theorem ix_first {c : Nat} (hc : c < 256) {s : List Nat} (hs : ∀ x ∈ s, x < 256) {N : Nat} (h1 : s[N]? = some c) (h2 : ∀ k, k < N → s[k]? ≠ some c) : ixB c s = N := by
  have g := ixB_ge c s
  by_cases h : ixB c s = -1
  · exact absurd h1 (ixB_none h N)
  · obtain ⟨n, hn⟩ : ∃ n : Nat, ixB c s = n := ⟨(ixB c s).toNat, by omega⟩
    obtain ⟨h3, h4⟩ := ixB_some hc hs hn
    have : n = N := by
      rcases Nat.lt_trichotomy n N with h5 | h5 | h5
      · exact absurd h3 (h2 n h5)
      · exact h5
      · exact absurd h1 (h4 N h5)
    rw [hn, this]
theorem ix_other {c : Nat} (hc : c < 256) {s : List Nat} (hs : ∀ x ∈ s, x < 256) {N : Nat} (h2 : ∀ k, k ≤ N → s[k]? ≠ some c) : ixB c s < 0 ∨ (N : Int) < ixB c s := by
  have g := ixB_ge c s
  by_cases h : ixB c s = -1
  · left; omega
  · obtain ⟨n, hn⟩ : ∃ n : Nat, ixB c s = n := ⟨(ixB c s).toNat, by omega⟩
    obtain ⟨h3, _⟩ := ixB_some hc hs hn
    right
    by_cases h5 : n ≤ N
    · exact absurd h3 (h2 n h5)
    · omega
theorem text_at (m : Mt) (k : Nat) (hk : k < m.n.length) : (textB m)[k]? = m.n[k]? := by
  unfold textB
  rw [List.append_assoc, List.getElem?_append_left hk]
theorem text_sign (m : Mt) (c : Nat) (r : List Nat) (h : signB m.op = c :: r) : (textB m)[m.n.length]? = some c := by
  unfold textB
  rw [List.append_assoc, List.getElem?_append_right (Nat.le_refl _), Nat.sub_self, h]
  rfl
theorem text_lt {m : Mt} (hm : m.Ok) : ∀ x ∈ textB m, x < 256 := by
  intro x hx
  unfold textB at hx
  rcases List.mem_append.1 hx with hx | hx
  · rcases List.mem_append.1 hx with hx | hx
    · exact hm.1 x hx
    · exact signB_lt _ x hx
  · exact hm.2.2.1 x hx
theorem first_text {m : Mt} (hm : m.Ok) (h : checkB m = 0) : firstB (textB m) = (m.n.length : Int) := by
  obtain ⟨hn, ho, hv⟩ := checkB_op h
  obtain ⟨_, hall⟩ := nameB_all hn
  have hlt := text_lt hm
  have h0 := hm.2.2.2.2.1
  have hname : ∀ (k c : Nat), k < m.n.length → (textB m)[k]? = some c → okc c = true := by
    intro k c hk hc
    rw [text_at m k hk] at hc
    exact hall c (List.mem_of_getElem? hc)
  have n61 : ∀ k, k < m.n.length → (textB m)[k]? ≠ some 61 := fun k hk hc => (okc_not (hname k 61 hk hc)).1 rfl
  have n33 : ∀ k, k < m.n.length → (textB m)[k]? ≠ some 33 := fun k hk hc => (okc_not (hname k 33 hk hc)).2 rfl
  have hop : m.op = 0 ∨ m.op = 1 ∨ m.op = 2 ∨ m.op = 3 := by omega
  have hsg : (∃ r, signB m.op = 61 :: r) ∨ ∃ r, signB m.op = 33 :: r := by
    rcases hop with e | e | e | e <;> rw [e]
    · exact .inl ⟨_, rfl⟩
    · exact .inr ⟨_, rfl⟩
    · exact .inl ⟨_, rfl⟩
    · exact .inr ⟨_, rfl⟩
  unfold firstB
  rcases hsg with ⟨r, hr⟩ | ⟨r, hr⟩
  · have hs := text_sign m 61 r hr
    have ha := ix_first (by decide) hlt hs n61
    have hb := ix_other (c := 33) (by decide) hlt (N := m.n.length) (fun k hk hc => by
      rcases Nat.lt_or_eq_of_le hk with hk | hk
      · exact n33 k hk hc
      · rw [hk, hs] at hc; injection hc with hc; cases hc)
    rw [ha, if_neg (by omega)]
  · have hs := text_sign m 33 r hr
    have hb := ix_first (by decide) hlt hs n33
    have ha := ix_other (c := 61) (by decide) hlt (N := m.n.length) (fun k hk hc => by
      rcases Nat.lt_or_eq_of_le hk with hk | hk
      · exact n61 k hk hc
      · rw [hk, hs] at hc; injection hc with hc; cases hc)
    rw [hb, if_pos (by omega)]
theorem cand_self (m : Mt) : candB (textB m) m.n.length m.op = m ∧ preB (signB m.op) ((textB m).drop m.n.length) = true := by
  have hd : (textB m).drop m.n.length = signB m.op ++ m.v := by
    unfold textB
    rw [List.append_assoc, List.drop_left]
  have hp : preB (signB m.op) (signB m.op ++ m.v) = true := by
    unfold preB
    rw [List.take_left, decide_eq_true rfl]
  refine ⟨?_, by rw [hd]; exact hp⟩
  unfold candB cutB
  rw [hd, if_pos hp, List.drop_left]
  have ht : (textB m).take m.n.length = m.n := by
    unfold textB
    rw [List.append_assoc, List.take_left]
  rw [ht]
/-- A matcher that may be is read from its text, as one of its name and of its text. -/
theorem readB_text {m : Mt} (hm : m.Ok) (h : checkB m = 0) : (readB (textB m)).2 = 0 ∧ textB (readB (textB m)).1 = textB m ∧ (readB (textB m)).1.n = m.n := by
  obtain ⟨hn, ho, hv⟩ := checkB_op h
  have h0 := hm.2.2.2.2.1
  unfold readB
  rw [first_text hm h, if_neg (by omega)]
  simp only [Int.toNat_natCast]
  have hop : m.op ∈ opsB := by
    have : m.op = 0 ∨ m.op = 1 ∨ m.op = 2 ∨ m.op = 3 := by omega
    rcases this with e | e | e | e <;> rw [e] <;> decide
  obtain ⟨c1, c2⟩ := cand_self m
  have hhit : hitB (textB m) m.n.length m.op = true := by
    unfold hitB
    rw [c1, c2, h]
    rfl
  rcases readFrom_is (textB m) m.n.length opsB with ⟨_, h2⟩ | ⟨op, h1, h2, h3⟩
  · rw [h2 m.op hop] at hhit; cases hhit
  · rw [h2]
    refine ⟨rfl, cand_text (hit_is h3).1, ?_⟩
    show (textB m).take m.n.length = m.n
    unfold textB
    rw [List.append_assoc, List.take_left]
theorem text_short {m : Mt} (h : checkB m = 0) : m.n.length ≤ 16 ∧ m.v.length ≤ 64 ∧ (textB m).length ≤ 100 := by
  obtain ⟨hn, ho, hv⟩ := checkB_op h
  have h1 := (nameB_all hn).1
  refine ⟨h1, hv, ?_⟩
  unfold textB
  have := signB_len m.op
  simp only [List.length_append]
  omega
end Go.Proofs.Ytnidjfmbbfoheaa
