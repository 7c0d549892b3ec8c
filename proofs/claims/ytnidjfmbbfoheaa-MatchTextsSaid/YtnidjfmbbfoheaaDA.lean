/- PLAIN: the document's reader of patterns takes just what the program's does. No program in sight. -/
import Derived.Test.YtnidjfmbbfoheaaRxA
import Derived.Test.YtnidjfmbbfoheaaMaH
import Derived.Test.YtnidjfmbbfoheaaCq
import Derived.Deep.DeepMust
namespace Go.Proofs.Ytnidjfmbbfoheaa.Rx
set_option linter.unusedVariables false
set_option linter.unusedSimpArgs false

/-! ### sets: what is left behind them does not hang on the bytes in them -/
def setRest : Nat → List Nat → Option (List Nat)
  | 0, _ => none
  | n + 1, s =>
    if s.head? = some 93 then some s.tail else
    match memb s with
    | none => none
    | some (lo, s1) =>
      if rng s1 = true then
        match memb s1.tail with
        | none => none
        | some (hi, s2) => if hi < lo then none else setRest n s2
      else setRest n s1
theorem setGo_rest : ∀ (n : Nat) (x : List Bool) (s : List Nat), (setGo n x s).map (·.2) = setRest n s
  | 0, _, _ => rfl
  | n + 1, x, s => by
    unfold setGo setRest
    by_cases h0 : s.head? = some 93
    · rw [if_pos h0, if_pos h0]
      rfl
    · rw [if_neg h0, if_neg h0]
      cases hm : memb s with
      | none => rfl
      | some q =>
        obtain ⟨lo, s1⟩ := q
        simp only
        by_cases hr : rng s1 = true
        · rw [if_pos hr, if_pos hr]
          cases hm2 : memb s1.tail with
          | none => rfl
          | some q2 =>
            obtain ⟨hi, s2⟩ := q2
            simp only
            by_cases hl : hi < lo
            · rw [if_pos hl, if_pos hl]
              rfl
            · rw [if_neg hl, if_neg hl]
              exact setGo_rest n _ _
        · rw [if_neg hr, if_neg hr]
          exact setGo_rest n _ _
theorem memb_short {s r : List Nat} {c : Nat} (h : memb s = some (c, r)) : r.length < s.length := by
  cases s with
  | nil => cases h
  | cons a t =>
    unfold memb at h
    simp only at h
    by_cases h1 : a = 93
    · rw [if_pos h1] at h
      cases h
    · rw [if_neg h1] at h
      by_cases h2 : a = 92
      · rw [if_pos h2] at h
        cases t with
        | nil => cases h
        | cons d t' =>
          simp only [Option.some.injEq, Prod.mk.injEq] at h
          rw [← h.2]
          simp
          omega
      · rw [if_neg h2] at h
        simp only [Option.some.injEq, Prod.mk.injEq] at h
        rw [← h.2]
        simp
theorem setRest_short : ∀ (n : Nat) (s r : List Nat), setRest n s = some r → r.length < s.length
  | 0, _, _, h => by cases h
  | n + 1, s, r, h => by
    unfold setRest at h
    split at h
    · rename_i h1
      injection h with h
      subst h
      cases s with
      | nil => cases h1
      | cons a t => simp
    · split at h
      · cases h
      · rename_i lo s1 h1
        have l1 := memb_short h1
        split at h
        · split at h
          · cases h
          · rename_i hi s2 h2
            have l2 := memb_short h2
            split at h
            · cases h
            · have := setRest_short n _ _ h
              simp at l2
              omega
        · have := setRest_short n _ _ h
          omega
/-- A set, behind its bracket: what is left. -/
def setB (s : List Nat) : Option (List Nat) :=
  if s.head? = some 94 then (if s.tail.head? = some 93 then none else setRest (s.length + 1) s.tail)
  else if s.head? = some 93 then none else setRest (s.length + 1) s
theorem setP_rest (s : List Nat) : (setP s).map (·.2) = setB s := by
  unfold setP setB
  split
  · split
    · rfl
    · rw [Option.map_map]
      exact setGo_rest _ _ _
  · split
    · rfl
    · exact setGo_rest _ _ _
theorem setB_short {s r : List Nat} (h : setB s = some r) : r.length < s.length := by
  unfold setB at h
  split at h
  · rename_i h1
    split at h
    · cases h
    · have := setRest_short _ _ _ h
      simp at this
      omega
  · split at h
    · cases h
    · exact setRest_short _ _ _ h
/-- More rounds than are left change nothing. -/
theorem setRest_fuel : ∀ (n m : Nat) (s : List Nat), s.length < n → s.length < m → setRest n s = setRest m s
  | 0, _, _, h, _ => by omega
  | n + 1, 0, _, _, h => by omega
  | n + 1, m + 1, s, h1, h2 => by
    unfold setRest
    split
    · rfl
    · split
      · rfl
      · rename_i lo s1 e1
        have l1 := memb_short e1
        split
        · split
          · rfl
          · rename_i hi s2 e2
            have l2 := memb_short e2
            simp at l2
            split
            · rfl
            · exact setRest_fuel n m s2 (by omega) (by omega)
        · exact setRest_fuel n m s1 (by omega) (by omega)

/-! ### the document's parse and atom: what is left -/
def repsB : List Nat → List Nat
  | [] => []
  | c :: r => if c = 42 ∨ c = 43 ∨ c = 63 then repsB r else c :: r
theorem repsA_rest : ∀ (s : List Nat) (a : Re), (repsA a s).2 = repsB s
  | [], a => rfl
  | c :: r, a => by
    unfold repsA repsB
    by_cases h1 : c = 42
    · rw [if_pos h1, if_pos (.inl h1)]
      exact repsA_rest r _
    · rw [if_neg h1]
      by_cases h2 : c = 43
      · rw [if_pos h2, if_pos (.inr (.inl h2))]
        exact repsA_rest r _
      · rw [if_neg h2]
        by_cases h3 : c = 63
        · rw [if_pos h3, if_pos (.inr (.inr h3))]
          exact repsA_rest r _
        · rw [if_neg h3, if_neg (by simp [h1, h2, h3])]
theorem repsB_short : ∀ s : List Nat, (repsB s).length ≤ s.length
  | [] => Nat.le_refl _
  | c :: r => by
    unfold repsB
    split
    · have := repsB_short r
      simp
      omega
    · exact Nat.le_refl _
mutual
def parB : Nat → List Nat → Option (List Nat)
  | 0, _ => none
  | n + 1, s =>
    if s = [] ∨ s.head? = some 41 then some s
    else if s.head? = some 124 then parB n s.tail
    else match atB n s with
      | none => none
      | some s1 => parB n (repsB s1)
def atB : Nat → List Nat → Option (List Nat)
  | 0, _ => none
  | n + 1, s => match s with
    | [] => none
    | c :: r =>
      if c = 40 then
        match parB n r with
        | none => none
        | some s1 => if s1.head? = some 41 then some s1.tail else none
      else if c = 91 then setB r
      else if c = 46 then some r
      else if c = 92 then (match r with | [] => none | d :: r' => some r')
      else if c ∈ special then none
      else some r
end
theorem head_tail {s : List Nat} {c : Nat} (h : s.head? = some c) : s.length = s.tail.length + 1 := by
  cases s with
  | nil => cases h
  | cons a t => simp
mutual
theorem parB_short : ∀ (n : Nat) (s r : List Nat), parB n s = some r → r.length ≤ s.length ∧ (r = [] ∨ r.head? = some 41)
  | 0, _, _, h => by cases h
  | n + 1, s, r, h => by
    unfold parB at h
    by_cases h1 : s = [] ∨ s.head? = some 41
    · rw [if_pos h1] at h
      injection h with h
      subst h
      exact ⟨Nat.le_refl _, h1⟩
    · rw [if_neg h1] at h
      by_cases h2 : s.head? = some 124
      · rw [if_pos h2] at h
        have h3 := parB_short n _ _ h
        have h4 := head_tail h2
        exact ⟨by omega, h3.2⟩
      · rw [if_neg h2] at h
        cases ha : atB n s with
        | none => rw [ha] at h; cases h
        | some s1 =>
          rw [ha] at h
          have h3 := parB_short n _ _ h
          have h4 := atB_short n _ _ ha
          have h5 := repsB_short s1
          exact ⟨by omega, h3.2⟩
theorem atB_short : ∀ (n : Nat) (s r : List Nat), atB n s = some r → r.length < s.length
  | 0, _, _, h => by cases h
  | n + 1, s, r, h => by
    unfold atB at h
    cases s with
    | nil => cases h
    | cons c t =>
      simp only at h
      by_cases h1 : c = 40
      · rw [if_pos h1] at h
        cases hp : parB n t with
        | none => rw [hp] at h; cases h
        | some s1 =>
          rw [hp] at h
          simp only at h
          have h3 := parB_short n _ _ hp
          by_cases h4 : s1.head? = some 41
          · rw [if_pos h4] at h
            injection h with h
            subst h
            have := head_tail h4
            simp only [List.length_cons]
            omega
          · rw [if_neg h4] at h
            cases h
      · rw [if_neg h1] at h
        by_cases h2 : c = 91
        · rw [if_pos h2] at h
          have := setB_short h
          simp only [List.length_cons]
          omega
        · rw [if_neg h2] at h
          by_cases h3 : c = 46
          · rw [if_pos h3] at h
            injection h with h
            subst h
            simp
          · rw [if_neg h3] at h
            by_cases h4 : c = 92
            · rw [if_pos h4] at h
              cases t with
              | nil => cases h
              | cons d t' =>
                simp only [Option.some.injEq] at h
                subst h
                simp only [List.length_cons]
                omega
            · rw [if_neg h4] at h
              by_cases h5 : c ∈ special
              · rw [if_pos h5] at h
                cases h
              · rw [if_neg h5] at h
                injection h with h
                subst h
                simp
end
/-! ### the two readers are one: by how much is left to read -/
def RowL (s : List Nat) : Prop := ∀ (n n2 m : Nat) (o : Re) (G : Re → Re), 8 * s.length + 3 ≤ n → 8 * s.length + 4 ≤ n2 → 2 * s.length + 1 ≤ m → ((rowA n o s).bind fun q => barsA n2 (G q.1) q.2).map (·.2) = parB m s
theorem pat_bind (n : Nat) (s : List Nat) : patA (n + 1) s = (rowA n .nil s).bind fun q => barsA n q.1 q.2 := by
  unfold patA
  cases rowA n .nil s <;> rfl
theorem pat_like {s : List Nat} (h : RowL s) (n m : Nat) (hn : 8 * s.length + 5 ≤ n) (hm : 2 * s.length + 1 ≤ m) : (patA n s).map (·.2) = parB m s := by
  obtain ⟨k, rfl⟩ : ∃ k, n = k + 1 := ⟨n - 1, by omega⟩
  rw [pat_bind]
  exact h k k m .nil id (by omega) (by omega) hm
theorem atom_like (s : List Nat) (h : ∀ t : List Nat, t.length < s.length → RowL t) (n m : Nat) (hn : 8 * s.length ≤ n) (hm : 2 * s.length ≤ m) : (atomA n s).map (·.2) = atB m s := by
  cases s with
  | nil => cases n <;> cases m <;> rfl
  | cons c r =>
    simp only [List.length_cons] at hn hm
    obtain ⟨n, rfl⟩ : ∃ k, n = k + 1 := ⟨n - 1, by omega⟩
    obtain ⟨m, rfl⟩ : ∃ k, m = k + 1 := ⟨m - 1, by omega⟩
    unfold atomA atB
    simp only
    by_cases h1 : c = 40
    · rw [if_pos h1, if_pos h1]
      have hp := pat_like (h r (by simp)) n m (by omega) (by omega)
      cases hA : patA n r with
      | none =>
        rw [hA] at hp
        rw [← hp]
        rfl
      | some q =>
        obtain ⟨o, s1⟩ := q
        rw [hA] at hp
        rw [← hp]
        simp only [Option.map_some]
        by_cases h2 : s1.head? = some 41
        · rw [if_pos h2, if_pos h2]
          rfl
        · rw [if_neg h2, if_neg h2]
          rfl
    · rw [if_neg h1, if_neg h1]
      by_cases h2 : c = 91
      · rw [if_pos h2, if_pos h2, Option.map_map]
        exact setP_rest r
      · rw [if_neg h2, if_neg h2]
        by_cases h3 : c = 46
        · rw [if_pos h3, if_pos h3]
          rfl
        · rw [if_neg h3, if_neg h3]
          by_cases h4 : c = 92
          · rw [if_pos h4, if_pos h4]
            cases r <;> rfl
          · rw [if_neg h4, if_neg h4]
            by_cases h5 : c ∈ special
            · rw [if_pos h5, if_pos h5]
              rfl
            · rw [if_neg h5, if_neg h5]
              rfl
theorem bars_end {n : Nat} {o : Re} {s : List Nat} (h : ¬ s.head? = some 124) : barsA (n + 1) o s = some (o, s) := by
  unfold barsA
  rw [if_neg h]
theorem row_like : ∀ (L : Nat) (s : List Nat), s.length < L → RowL s
  | 0, s, h => by omega
  | L + 1, s, hL => by
    intro n n2 m o G hn hn2 hm
    have IH := row_like L
    obtain ⟨n, rfl⟩ : ∃ k, n = k + 1 := ⟨n - 1, by omega⟩
    obtain ⟨n2, rfl⟩ : ∃ k, n2 = k + 1 := ⟨n2 - 1, by omega⟩
    obtain ⟨m, rfl⟩ : ∃ k, m = k + 1 := ⟨m - 1, by omega⟩
    by_cases h0 : s = [] ∨ s.head? = some 41
    · have h1 : s = [] ∨ s.head? = some 124 ∨ s.head? = some 41 := by
        rcases h0 with h | h
        · exact .inl h
        · exact .inr (.inr h)
      have h2 : ¬ s.head? = some 124 := by
        rcases h0 with h | h
        · subst h; simp
        · rw [h]; simp
      unfold rowA parB
      rw [if_pos h1, if_pos h0]
      show (barsA (n2 + 1) (G o) s).map (·.2) = some s
      rw [bars_end h2]
      rfl
    · by_cases h2 : s.head? = some 124
      · have ht := head_tail h2
        unfold rowA parB
        rw [if_pos (.inr (.inl h2)), if_neg h0, if_pos h2]
        show (barsA (n2 + 1) (G o) s).map (·.2) = parB m s.tail
        unfold barsA
        rw [if_pos h2]
        have := IH s.tail (by omega) n2 n2 m .nil (fun m1 => .alt (G o) m1) (by omega) (by omega) (by omega)
        rw [← this]
        cases rowA n2 .nil s.tail <;> rfl
      · have h1 : ¬ (s = [] ∨ s.head? = some 124 ∨ s.head? = some 41) := by
          rintro (h | h | h)
          · exact h0 (.inl h)
          · exact h2 h
          · exact h0 (.inr h)
        have hs : 0 < s.length := by
          cases s with
          | nil => exact absurd (.inl rfl) h0
          | cons a t => simp
        unfold rowA parB
        rw [if_neg h1, if_neg h0, if_neg h2]
        obtain ⟨n, rfl⟩ : ∃ k, n = k + 1 := ⟨n - 1, by omega⟩
        unfold partA
        have ha := atom_like s (fun t ht => IH t (by omega)) n m (by omega) (by omega)
        cases hA : atomA n s with
        | none =>
          rw [hA] at ha
          rw [← ha]
          rfl
        | some q =>
          obtain ⟨p, s1⟩ := q
          rw [hA] at ha
          rw [← ha]
          simp only [Option.map_some]
          have l1 := atB_short m s s1 (by rw [← ha]; rfl)
          have l2 := repsB_short s1
          have l3 := repsA_rest s1 p
          have := IH (repsB s1) (by omega) (n + 1) (n2 + 1) m (.cat o (repsA p s1).1) G (by omega) (by omega) (by omega)
          rw [← this, ← l3]
/-- Does the document's reader take a pattern? -/
def readB (s : List Nat) : Bool := match parB (2 * s.length + 2) s with
  | some [] => true
  | _ => false
/-- The document takes a pattern just if the program reads it. -/
theorem read_like (s : List Nat) : readB s = (readA s).isSome := by
  have h := pat_like (row_like (s.length + 1) s (by omega)) (8 * s.length + 8) (2 * s.length + 2) (by omega) (by omega)
  unfold readA readB
  rw [← h]
  cases patA (8 * s.length + 8) s with
  | none => rfl
  | some q =>
    obtain ⟨r, s1⟩ := q
    cases s1 with
    | nil => rfl
    | cons a t => rfl
end Go.Proofs.Ytnidjfmbbfoheaa.Rx

/- WALKS: the document's Name; a byte of a set, as the document reads it. -/
namespace Go.Proofs.Ytnidjfmbbfoheaa
set_option linter.unusedVariables false
set_option linter.unusedSimpArgs false
open Go.RowKit

def lowc (c : Nat) : Bool := (decide (97 ≤ c) && decide (c ≤ 122)) || decide (c = 95)
def okR (i c : Nat) : Bool := lowc c || (decide (i ≠ 0) && (decide (48 ≤ c) && decide (c ≤ 57)))
theorem okR_succ (i c : Nat) : okR (i + 1) c = okc c := by
  by_cases h1 : c = 95 <;> by_cases h2 : 97 ≤ c <;> by_cases h3 : c ≤ 122 <;> by_cases h4 : 48 ≤ c <;> by_cases h5 : c ≤ 57 <;> simp [okR, okc, lowc, h1, h2, h3, h4, h5]
theorem okR_zero (c : Nat) : okR 0 c = (!(decide (48 ≤ c) && decide (c ≤ 57)) && okc c) := by
  by_cases h1 : c = 95
  · subst h1; decide
  · by_cases h2 : 97 ≤ c <;> by_cases h3 : c ≤ 122 <;> by_cases h4 : 48 ≤ c <;> by_cases h5 : c ≤ 57 <;> simp [okR, okc, lowc, h1, h2, h3, h4, h5] <;> omega
theorem name_bad {s : List Nat} {i y : Nat} (h : s[i]? = some y) (hn : okR i y = false) : nameB s = false := by
  cases s with
  | nil => simp at h
  | cons c r =>
    cases i with
    | zero =>
      simp at h
      subst h
      rw [okR_zero] at hn
      unfold nameB
      simp only [List.all_cons]
      cases decide ((c :: r).length ≤ 16) <;> cases h2 : (!(decide (48 ≤ c) && decide (c ≤ 57))) <;> cases h3 : okc c <;> simp_all
    | succ i =>
      rw [okR_succ] at hn
      have hm : y ∈ (c :: r) := List.mem_of_getElem? h
      have : (c :: r).all okc = false := by
        rw [Bool.eq_false_iff]
        intro h2
        rw [List.all_eq_true.1 h2 y hm] at hn
        cases hn
      unfold nameB
      simp only [this, Bool.and_false]
theorem name_good {s : List Nat} (h : ∀ (i y : Nat), s[i]? = some y → okR i y = true) : nameB s = (decide (1 ≤ s.length) && decide (s.length ≤ 16)) := by
  cases s with
  | nil => rfl
  | cons c r =>
    have h0 := h 0 c rfl
    rw [okR_zero, Bool.and_eq_true] at h0
    have ha : (c :: r).all okc = true := by
      rw [List.all_eq_true]
      intro x hx
      rcases List.mem_cons.1 hx with rfl | hx
      · exact h0.2
      · obtain ⟨i, hi⟩ := List.mem_iff_getElem?.1 hx
        have := h (i + 1) x (by simpa using hi)
        rwa [okR_succ] at this
    rw [nameB_cons, ha, h0.1]
    simp
set_option maxRecDepth 100000 in
set_option maxHeartbeats 4000000 in
theorem refName_any (s : List Nat) (hb : ∀ x ∈ s, x < 256) (hl : s.length ≤ 9223372036854775807) (w : World) : Calls Try.prog 67 #[.string (bs s)] w fun e w' => e = .returned (.bool (nameB s)) ∧ w' = w := by
  have hz := bs_size s
  have HX : Hid (∀ (k b : Nat), s[k]? = some b → b < 256 ∧ ∀ w, (Instr.index 9 (.string (bs s)) (.int .i64 (k : Int))).run Try.prog w = .ok (.int .u8 (b : Int)) w) := Lib.hid (fun k b h => ⟨hb b (List.mem_of_getElem? h), fun w => idx_bs s k b h (hb b (List.mem_of_getElem? h)) w⟩)
  obtain ⟨G, hG⟩ : ∃ G, nameB s = G := ⟨_, rfl⟩
  rw [hG]
  have HG := Lib.hid hG
  clear hb hG
  obtain ⟨n, hn⟩ : ∃ n, s.length = n := ⟨_, rfl⟩
  rw [hn] at hz hl
  have HN := Lib.hid hn
  clear hn
  generalize bs s = b at *
  go_enter Try.func67, Try.ntmps67
  go_wp2
  go_loopw [3] (fun t wr => ∃ i : Nat, t = .int .i64 (i : Int) ∧ i ≤ n ∧ Hid (∀ (j y : Nat), j < i → s[j]? = some y → okR j y = true) ∧ wr = w) (fun t _ => n - (intOf t).toNat)
  case atStart => exact ⟨0, rfl, by omega, Lib.hid (fun j y h => by omega), rfl⟩
  case round =>
    obtain ⟨i, rfl, hi, HA, rfl⟩ := hrel
    by_cases hlt : i < n
    · obtain ⟨y, hy⟩ : ∃ y, s[i]? = some y := ⟨_, List.getElem?_eq_getElem (by rw [HN.out]; exact hlt)⟩
      obtain ⟨hyb, hyx⟩ := HX.out i y hy
      have hiI : (i : Int) < (n : Int) := by omega
      have hi0 : (0 : Int) ≤ (i : Int) := by omega
      have HOK : Hid (okR i y = true → ∀ (j x : Nat), j < i + 1 → s[j]? = some x → okR j x = true) := Lib.hid (fun h j x hj hx => by
        by_cases hji : j = i
        · subst hji; rw [hy] at hx; injection hx with hx; subst hx; exact h
        · exact HA.out j x (by omega) hx)
      have HNO : Hid (okR i y = false → G = false) := Lib.hid (fun h => by rw [← HG.out]; exact name_bad hy h)
      clear hy
      by_cases a1 : 97 ≤ y
      · have f1 : (97 : Int) ≤ (y : Int) := by omega
        by_cases a2 : y ≤ 122
        · have f2 : (y : Int) ≤ 122 := by omega
          have hok := HOK.out (by simp [okR, lowc]; omega)
          have HOKi := Lib.hid hok
          clear hok
          go_wp2
          go_roundw
          case rel => exact ⟨i + 1, by go_num, by omega, HOKi, (by first | rfl | trivial)⟩
          case measure => (simp [intOf] <;> omega)
        · have f2 : ¬ (y : Int) ≤ 122 := by omega
          have f3 : ((y : Int) == 95) = false := beq_eq_false_iff_ne.2 (by omega)
          have f4 : (y == 95) = false := beq_eq_false_iff_ne.2 (by omega)
          by_cases b1 : i = 0
          · have hno : okR i y = false := by simp [okR, lowc, b1]; omega
            obtain rfl : G = false := HNO.out hno
            clear HOK HNO hno HA
            subst b1
            rw [show ((0 : Nat) : Int) = 0 from rfl] at hyx ⊢
            go_wp2
            go_ret
            exact ⟨rfl, rfl⟩
          · have g1 : ((i : Int) == 0) = false := beq_eq_false_iff_ne.2 (by omega)
            by_cases b2 : y < 48
            · have g2 : (y : Int) < 48 := by omega
              obtain rfl : G = false := HNO.out (by simp [okR, lowc]; omega)
              go_wp2
              go_ret
              exact ⟨rfl, rfl⟩
            · have g2 : ¬ (y : Int) < 48 := by omega
              by_cases b3 : 57 < y
              · have g3 : (57 : Int) < (y : Int) := by omega
                obtain rfl : G = false := HNO.out (by simp [okR, lowc]; omega)
                go_wp2
                go_ret
                exact ⟨rfl, rfl⟩
              · have g3 : ¬ (57 : Int) < (y : Int) := by omega
                have hok := HOK.out (by simp [okR, lowc]; omega)
                have HOKi := Lib.hid hok
                clear hok
                go_wp2
                go_roundw
                case rel => exact ⟨i + 1, by go_num, by omega, HOKi, (by first | rfl | trivial)⟩
                case measure => (simp [intOf] <;> omega)
      · have f1 : ¬ (97 : Int) ≤ (y : Int) := by omega
        by_cases a3 : y = 95
        · subst a3
          have hok := HOK.out (by simp [okR, lowc])
          have HOKi := Lib.hid hok
          clear hok
          go_wp2
          go_roundw
          case rel => exact ⟨i + 1, by go_num, by omega, HOKi, (by first | rfl | trivial)⟩
          case measure => (simp [intOf] <;> omega)
        · have f3 : ((y : Int) == 95) = false := beq_eq_false_iff_ne.2 (by omega)
          have f4 : (y == 95) = false := beq_eq_false_iff_ne.2 (by omega)
          by_cases b1 : i = 0
          · have hno : okR i y = false := by simp [okR, lowc, b1]; omega
            obtain rfl : G = false := HNO.out hno
            clear HOK HNO hno HA
            subst b1
            rw [show ((0 : Nat) : Int) = 0 from rfl] at hyx ⊢
            go_wp2
            go_ret
            exact ⟨rfl, rfl⟩
          · have g1 : ((i : Int) == 0) = false := beq_eq_false_iff_ne.2 (by omega)
            by_cases b2 : y < 48
            · have g2 : (y : Int) < 48 := by omega
              obtain rfl : G = false := HNO.out (by simp [okR, lowc]; omega)
              go_wp2
              go_ret
              exact ⟨rfl, rfl⟩
            · have g2 : ¬ (y : Int) < 48 := by omega
              by_cases b3 : 57 < y
              · have g3 : (57 : Int) < (y : Int) := by omega
                obtain rfl : G = false := HNO.out (by simp [okR, lowc]; omega)
                go_wp2
                go_ret
                exact ⟨rfl, rfl⟩
              · have g3 : ¬ (57 : Int) < (y : Int) := by omega
                have hok := HOK.out (by simp [okR, lowc]; omega)
                have HOKi := Lib.hid hok
                clear hok
                go_wp2
                go_roundw
                case rel => exact ⟨i + 1, by go_num, by omega, HOKi, (by first | rfl | trivial)⟩
                case measure => (simp [intOf] <;> omega)
    · obtain rfl : i = n := by omega
      have hv : G = (decide (1 ≤ i) && decide (i ≤ 16)) := by
        rw [← HG.out, name_good (fun j y h => HA.out j y (by rw [← HN.out]; exact (List.getElem?_eq_some_iff.1 h).1) h), HN.out]
      have HV := Lib.hid hv
      clear hv
      by_cases c1 : 1 ≤ i
      · have k1 : (1 : Int) ≤ (i : Int) := by omega
        by_cases c2 : i ≤ 16
        · have k2 : (i : Int) ≤ 16 := by omega
          go_wp2
          go_ret
          exact ⟨ret_bool (by rw [HV.out]; simp [c1, c2]), rfl⟩
        · have k2 : ¬ (i : Int) ≤ 16 := by omega
          go_wp2
          go_ret
          exact ⟨ret_bool (by rw [HV.out]; simp [c1, c2]), rfl⟩
      · have k1 : ¬ (1 : Int) ≤ (i : Int) := by omega
        go_wp2
        go_ret
        exact ⟨ret_bool (by rw [HV.out]; simp [c1]), rfl⟩
end Go.Proofs.Ytnidjfmbbfoheaa

/- WALK: a byte of a set, as the document reads it. -/
namespace Go.Proofs.Ytnidjfmbbfoheaa
set_option linter.unusedVariables false
set_option linter.unusedSimpArgs false
open Go.RowKit

theorem bs_tail2 (c d : Nat) (r : List Nat) : (bs (c :: d :: r)).extract 2 (r.length + 1 + 1) = bs r := by
  apply ByteArray.ext
  rw [ByteArray.data_extract]
  simp [bs]
  rw [List.take_of_length_le (by simp)]
def membVal (s : List Nat) : Value := match Rx.memb s with
  | none => .tuple #[.int .u8 0, .string ⟨#[]⟩, .bool false]
  | some (c, r) => .tuple #[.int .u8 (c : Int), .string (bs r), .bool true]
set_option maxRecDepth 100000 in
set_option maxHeartbeats 1000000 in
theorem inSet_any (s : List Nat) (hb : ∀ x ∈ s, x < 256) (w : World) : Calls Try.prog 123 #[.string (bs s)] w fun e w' => e = .returned (membVal s) ∧ Below w.heap.size w w' := by
  cases s with
  | nil =>
    rw [bs_nil]
    go_enter Try.func123, Try.ntmps123
    go_wp2
    exact bodyPost_ret (v := .tuple #[.int .u8 0, .string ⟨#[]⟩, .bool false]) (by simp [results, Try.results123, go_sem]) rfl ⟨rfl, Below.refl _ _⟩
  | cons c r =>
    have hidx := fun w => idx_bs (c :: r) 0 c rfl (hb c (by simp)) w
    rw [show ((0 : Nat) : Int) = 0 from rfl] at hidx
    have hne : (bs (c :: r)).toList.isEmpty = false := by rw [bs_ne]; rfl
    have hsz : (bs (c :: r)).size = r.length + 1 := by rw [bs_size]; rfl
    have ht : (bs (c :: r)).extract 1 (r.length + 1) = bs r := by have := bs_tail c r; rwa [hsz] at this
    by_cases h93 : c = 93
    · subst h93
      have hv : membVal (93 :: r) = .tuple #[.int .u8 0, .string ⟨#[]⟩, .bool false] := by unfold membVal Rx.memb; rfl
      rw [hv]
      clear hv hb
      generalize bs (93 :: r) = b at *
      go_enter Try.func123, Try.ntmps123
      go_wp2
      exact bodyPost_ret (v := .tuple #[.int .u8 0, .string ⟨#[]⟩, .bool false]) (by simp [results, Try.results123, go_sem]) rfl ⟨rfl, Below.refl _ _⟩
    · have f1 : ((c : Int) == 93) = false := beq_eq_false_iff_ne.2 (by omega)
      have f2 : (c == 93) = false := beq_eq_false_iff_ne.2 h93
      by_cases h92 : c = 92
      · subst h92
        cases r with
        | nil =>
          have hv : membVal (92 :: []) = .tuple #[.int .u8 0, .string ⟨#[]⟩, .bool false] := by unfold membVal Rx.memb; rfl
          rw [hv]
          clear hv hb ht f1 f2 h93
          simp only [List.length_nil] at hsz
          generalize bs (92 :: []) = b at *
          go_enter Try.func123, Try.ntmps123
          go_wp2
          exact bodyPost_ret (v := .tuple #[.int .u8 0, .string ⟨#[]⟩, .bool false]) (by simp [results, Try.results123, go_sem]) rfl ⟨rfl, Below.refl _ _⟩
        | cons d r' =>
          have hv : membVal (92 :: d :: r') = .tuple #[.int .u8 (d : Int), .string (bs r'), .bool true] := by unfold membVal Rx.memb; rfl
          have hidx1 := fun w => idx_bs (92 :: d :: r') 1 d rfl (hb d (by simp)) w
          rw [show ((1 : Nat) : Int) = 1 from rfl] at hidx1
          have ht2 := bs_tail2 92 d r'
          simp only [List.length_cons] at hsz
          rw [hv]
          clear hv hb ht f1 f2 h93
          have hn2 : ¬ ((r'.length : Int) + 1 + 1 < 2) := by omega
          generalize bs (92 :: d :: r') = b at *
          generalize bs r' = b' at *
          generalize r'.length = n at *
          go_enter Try.func123, Try.ntmps123
          go_wp2
          go_quiet (fail)
          go_wp2
          exact bodyPost_ret (v := .tuple #[.int .u8 (d : Int), .string b', .bool true]) (by simp [results, Try.results123, go_sem]) rfl ⟨rfl, below_drewN (Below.refl _ _) _⟩
      · have g1 : ((c : Int) == 92) = false := beq_eq_false_iff_ne.2 (by omega)
        have g2 : ((c : Int) != 92) = true := by rw [bne_iff_ne]; omega
        have hv : membVal (c :: r) = .tuple #[.int .u8 (c : Int), .string (bs r), .bool true] := by unfold membVal Rx.memb; simp [h93, h92]
        rw [hv]
        clear hv hb
        generalize bs (c :: r) = b at *
        generalize bs r = b' at *
        generalize r.length = n at *
        go_enter Try.func123, Try.ntmps123
        go_wp2
        go_quiet (fail)
        go_wp2
        exact bodyPost_ret (v := .tuple #[.int .u8 (c : Int), .string b', .bool true]) (by simp [results, Try.results123, go_sem]) rfl ⟨rfl, below_drewN (Below.refl _ _) _⟩
end Go.Proofs.Ytnidjfmbbfoheaa

/- WORDS: a tree of the document's in memory: 258 cells. WALK: a set of one byte. -/
namespace Go.Proofs.Ytnidjfmbbfoheaa
set_option linter.unusedVariables false
set_option linter.unusedSimpArgs false
open Go.RowKit

/-- A tree's cells: its kind, its set, what it is made of. -/
def tcl (k : Int) (x : List Bool) (v : Value) : List Value := .int .i64 k :: (x.map Value.bool ++ [v])
theorem tcl_len (k : Int) (x : List Bool) (v : Value) (hx : x.length = 256) : (tcl k x v).length = 258 := by simp [tcl, hx]
theorem tcl_get (k : Int) (x : List Bool) (v : Value) (j : Nat) (b : Bool) (h : x[j]? = some b) : (tcl k x v)[1 + j]? = some (.bool b) := by
  have hj := (List.getElem?_eq_some_iff.1 h).1
  unfold tcl
  rw [Nat.add_comm, List.getElem?_cons_succ, List.getElem?_append_left (by simpa using hj), List.getElem?_map, h]
  rfl
theorem tcl_set (k : Int) (x : List Bool) (v : Value) (j : Nat) (b : Bool) (h : j < x.length) : (tcl k x v).set (1 + j) (.bool b) = tcl k (x.set j b) v := by
  unfold tcl
  rw [Nat.add_comm, List.set_cons_succ, List.set_append_left _ _ (by simpa using h), List.map_set]
theorem tcl_one (k : Int) (x : List Bool) (v : Value) (hv : v.oneCell' = true) : ∀ u ∈ tcl k x v, u.oneCell' = true := by
  intro u hu
  unfold tcl at hu
  rcases List.mem_cons.1 hu with rfl | hu
  · rfl
  · rcases List.mem_append.1 hu with hu | hu
    · obtain ⟨b, _, rfl⟩ := List.mem_map.1 hu
      rfl
    · simp at hu
      subst hu
      exact hv
/-- A tree, whatever it says. -/
structure TrC (cs : List Value) : Prop where
  len : cs.length = 258
  one : ∀ v ∈ cs, v.oneCell' = true
theorem trc_tcl (k : Int) (x : List Bool) (v : Value) (hx : x.length = 256) (hv : v.oneCell' = true) : TrC (tcl k x v) := ⟨tcl_len k x v hx, tcl_one k x v hv⟩
theorem zero114 : Try.zeroCells114 = (tcl 0 Rx.noSet (.slice none 0 0)).toArray := by kernel_rfl
theorem siz114 : (Try.prog.info? 114).map (·.size) = some 258 := by kernel_rfl
theorem noSet_len : Rx.noSet.length = 256 := by unfold Rx.noSet; exact List.length_replicate
theorem TrC.siz {cs : List Value} (h : TrC cs) : (Try.prog.info? 114).map (·.size) = some cs.length := by rw [h.len]; exact siz114
theorem TrC.sizA {cs : List Value} (h : TrC cs) : (Try.prog.info? 114).map (·.size) = some cs.toArray.size := by rw [List.size_toArray, h.len]; exact siz114
theorem trc_zero : TrC (tcl 0 Rx.noSet (.slice none 0 0)) := trc_tcl _ _ _ noSet_len rfl
theorem blk_range {W : World} {b : Nat} {t : TypeId} {cs : List Value} (h : Blk W b t cs.toArray) : W.rangeAt b 0 cs := fun j v hv => by
  rw [Nat.zero_add, h.cell j]
  simpa using hv
theorem blk_there {W : World} {b : Nat} {t : TypeId} {cs : List Value} (h : Blk W b t cs.toArray) (n : Nat) (hn : n ≤ cs.length) : W.there b 0 n := h.there n (by rw [List.size_toArray]; exact hn)
theorem load_tree {W : World} {b : Nat} {cs : List Value} (h : W.rangeAt b 0 cs) (hc : TrC cs) : (loadVar 114 ⟨b, 0, none⟩).run Try.prog W = .ok (.agg cs.toArray) W :=
  run_loadVar_mid W b 0 114 cs _ h Try.underlying114 rfl hc.siz
theorem results_cell1 {P : Program} {fn : Func} {tmps : Array Value} {w : World} {a : Nat} {t : TypeId} {ad : Addr} {v : Value} (hr : fn.results = #[.cell a t]) (ha : tmps.getD a undef = .pointer (some ad)) (hl : (loadVar t ad).run P w = .ok v w) : (results fn tmps).run P w = .ok v w := by
  have ha' : tmps[a]?.getD undef = .pointer (some ad) := by simpa using ha
  unfold results
  rw [hr]
  simp [ha', asAddr, hl, Sem.run_bind, Result.andThen]
theorem results_cell3 {P : Program} {fn : Func} {tmps : Array Value} {w : World} {a b c : Nat} {t : TypeId} {ad : Addr} {v : Value} (hr : fn.results = #[.cell a t, .tmp b, .tmp c]) (ha : tmps.getD a undef = .pointer (some ad)) (hl : (loadVar t ad).run P w = .ok v w) : (results fn tmps).run P w = .ok (.tuple #[v, tmps.getD b undef, tmps.getD c undef]) w := by
  have ha' : tmps[a]?.getD undef = .pointer (some ad) := by simpa using ha
  unfold results
  rw [hr]
  simp [ha', asAddr, hl, Sem.run_bind, Result.andThen]
set_option maxRecDepth 100000 in
set_option maxHeartbeats 2000000 in
theorem one_ref (c : Nat) (w : World) (hc : c < 256) : Calls Try.prog 118 #[.int .u8 (c : Int)] w fun e w' => ∃ cs, e = .returned (.agg cs.toArray) ∧ TrC cs ∧ Below w.heap.size w w' := by
  have s1 : (w.alloc (.cells Try.zeroCells114 114)).heap.size = w.heap.size + 1 := by simp
  have K2 := Lib.hid (((Below.refl w.heap.size w).alloc (Nat.le_refl _) (.cells Try.zeroCells114 114)).alloc (by rw [s1]; omega) (.cells Try.zeroCells114 114))
  have B2 := Lib.hid ((Blk.new w 114 Try.zeroCells114).alloc (.cells Try.zeroCells114 114))
  have B3 : Hid (Blk ((w.alloc (.cells Try.zeroCells114 114)).alloc (.cells Try.zeroCells114 114)) (w.heap.size + 1) 114 Try.zeroCells114) := Lib.hid (Blk.new_at s1.symm)
  have hN : Rx.noSet[c]? = some false := by unfold Rx.noSet; rw [List.getElem?_replicate, if_pos hc]
  have h0 : (0 : Int) ≤ (c : Int) := by omega
  have h1 : (c : Int) < 256 := by omega
  clear s1
  go_enter Try.func118, Try.ntmps118
  go_upto_region 2 with fail
  generalize (w.alloc (.cells Try.zeroCells114 114)).alloc (.cells Try.zeroCells114 114) = w2 at *
  rw [zero114] at B2 B3
  have z0 : w2.cell? ⟨w.heap.size + 1, 1 + c, none⟩ = some (.bool false) := (B3.out.cell (1 + c)).trans (by rw [List.getElem?_toArray]; exact tcl_get _ _ _ c false hN)
  have z1 := B3.out.frozen (1 + c)
  have B4 : Hid (Blk (w2.setCell ⟨w.heap.size + 1, 1 + c, none⟩ (.bool true)) (w.heap.size + 1) 114 (tcl 0 (Rx.noSet.set c true) (.slice none 0 0)).toArray) := Lib.hid (by
    have h := B3.out.set_ (1 + c) (.bool true)
    rwa [List.setIfInBounds_toArray, tcl_set _ _ _ _ _ (by rw [noSet_len]; exact hc)] at h)
  have B5 := Lib.hid (B2.out.far (p := ⟨w.heap.size + 1, 1 + c, none⟩) (by show w.heap.size ≠ w.heap.size + 1; omega) (.bool true))
  have K5 := Lib.hid (K2.out.setCell (p := ⟨w.heap.size + 1, 1 + c, none⟩) (by show w.heap.size ≤ w.heap.size + 1; omega) (.bool true))
  have HC : Hid (TrC (tcl 0 (Rx.noSet.set c true) (.slice none 0 0))) := Lib.hid (trc_tcl _ _ _ (by rw [List.length_set, noSet_len]) rfl)
  have HT := Lib.hid (blk_there B5.out 258 (by rw [trc_zero.len]; exact Nat.le_refl _))
  have HR := Lib.hid (blk_range B4.out)
  clear hN
  go_upto_region 3 with fail
  generalize w2.setCell ⟨w.heap.size + 1, 1 + c, none⟩ (.bool true) = w3 at *
  generalize tcl 0 (Rx.noSet.set c true) (.slice none 0 0) = cs at *
  clear z0 z1
  have HT2 : Hid (w3.there w.heap.size 0 cs.toArray.size) := Lib.hid (by
    have e : cs.toArray.size = 258 := HC.out.len
    rw [e]
    exact HT.out)
  go_wp2_with (first | (refine wpList_load_mid rfl 114 _ rfl (w.heap.size + 1) 0 rfl cs _ HR.out Try.underlying114 rfl HC.out.siz ?_) | (refine wpList_store_mid rfl 114 _ _ rfl w.heap.size 0 cs.toArray rfl rfl HT2.out HC.out.sizA (all_oneCell_toArray HC.out.one) ?_))
  have hl := load_tree (World.rangeAt_setCells_same w3 w.heap.size 0 cs HT2.out) HC.out
  refine bodyPost_ret (v := .agg cs.toArray) (results_cell1 Try.results118 rfl hl) rfl ⟨cs, rfl, HC.out, ?_⟩
  exact below_setCells (Nat.le_refl _) _ _ K5.out
end Go.Proofs.Ytnidjfmbbfoheaa

/- WALK: the document's set: whether it is one, and what is left behind it. -/
namespace Go.Proofs.Ytnidjfmbbfoheaa
set_option linter.unusedVariables false
set_option linter.unusedSimpArgs false
open Go.RowKit

/-- What set, atom, parse hand back: some tree, what is left, whether there is one. -/
def TreeEnd (w : World) (G : Option (List Nat)) (e : Ending) (w' : World) : Prop := ∃ cs, TrC cs ∧ Below w.heap.size w w' ∧ e = .returned (.tuple #[.agg cs.toArray, .string (bs (G.getD [])), .bool G.isSome])
/-- What is left to be read of a set, and how many items were read. -/
def SetAt (G : Option (List Nat)) (t : List Nat) (cnt : Nat) : Prop := G = if cnt = 0 ∧ t.head? = some 93 then none else Rx.setRest (t.length + 1) t
/-- How long a text is. -/
def strLen : Value → Nat
  | .string b => b.size
  | _ => 0
theorem strLen_bs (t : List Nat) : strLen (.string (bs t)) = t.length := bs_size t
theorem memb_bytes {t u : List Nat} {lo : Nat} (h : Rx.memb t = some (lo, u)) (hb : ∀ x ∈ t, x < 256) : lo < 256 ∧ ∀ x ∈ u, x < 256 := by
  cases t with
  | nil => cases h
  | cons a r =>
    unfold Rx.memb at h
    simp only at h
    by_cases h1 : a = 93
    · rw [if_pos h1] at h
      cases h
    · rw [if_neg h1] at h
      by_cases h2 : a = 92
      · rw [if_pos h2] at h
        cases r with
        | nil => cases h
        | cons d r' =>
          simp only [Option.some.injEq, Prod.mk.injEq] at h
          rw [← h.1, ← h.2]
          exact ⟨hb d (by simp), fun x hx => hb x (by simp [hx])⟩
      · rw [if_neg h2] at h
        simp only [Option.some.injEq, Prod.mk.injEq] at h
        rw [← h.1, ← h.2]
        exact ⟨hb a (by simp), fun x hx => hb x (by simp [hx])⟩
theorem setAt_start (s : List Nat) : SetAt (Rx.setB s) (if s.head? = some 94 then s.tail else s) 0 := by
  unfold SetAt Rx.setB
  by_cases h : s.head? = some 94
  · rw [if_pos h, if_pos h]
    have hl := Rx.head_tail h
    by_cases h2 : s.tail.head? = some 93
    · rw [if_pos h2, if_pos ⟨rfl, h2⟩]
    · rw [if_neg h2, if_neg (fun hh => h2 hh.2)]
      exact Rx.setRest_fuel _ _ _ (by omega) (by omega)
  · rw [if_neg h, if_neg h]
    by_cases h2 : s.head? = some 93
    · rw [if_pos h2, if_pos ⟨rfl, h2⟩]
    · rw [if_neg h2, if_neg (fun hh => h2 hh.2)]
theorem setAt_nil {G : Option (List Nat)} {cnt : Nat} (h : SetAt G [] cnt) : G = none := by
  unfold SetAt at h
  rw [if_neg (by simp)] at h
  exact h
theorem setAt_end0 {G : Option (List Nat)} {r : List Nat} (h : SetAt G (93 :: r) 0) : G = none := by
  unfold SetAt at h
  rw [if_pos ⟨rfl, rfl⟩] at h
  exact h
theorem setAt_end {G : Option (List Nat)} {r : List Nat} {cnt : Nat} (h : SetAt G (93 :: r) cnt) (hc : cnt ≠ 0) : G = some r := by
  unfold SetAt at h
  rw [if_neg (fun hh => hc hh.1)] at h
  exact h
theorem setAt_step {G : Option (List Nat)} {t : List Nat} {cnt : Nat} (h : SetAt G t cnt) (h93 : t.head? ≠ some 93) : G = (match Rx.memb t with
    | none => none
    | some (lo, s1) => if Rx.rng s1 = true then (match Rx.memb s1.tail with | none => none | some (hi, s2) => if hi < lo then none else Rx.setRest (s2.length + 1) s2) else Rx.setRest (s1.length + 1) s1) := by
  unfold SetAt at h
  rw [if_neg (fun hh => h93 hh.2)] at h
  rw [h]
  conv => lhs; unfold Rx.setRest
  rw [if_neg h93]
  cases hm : Rx.memb t with
  | none => rfl
  | some q =>
    obtain ⟨lo, s1⟩ := q
    have l1 := Rx.memb_short hm
    simp only
    split
    · cases hm2 : Rx.memb s1.tail with
      | none => rfl
      | some q2 =>
        obtain ⟨hi, s2⟩ := q2
        have l2 := Rx.memb_short hm2
        simp at l2
        simp only
        split
        · rfl
        · exact Rx.setRest_fuel _ _ _ (by omega) (by omega)
    · exact Rx.setRest_fuel _ _ _ (by omega) (by omega)
theorem setAt_next {G : Option (List Nat)} {t : List Nat} {cnt : Nat} (h : G = Rx.setRest (t.length + 1) t) : SetAt G t (cnt + 1) := by
  unfold SetAt
  rw [if_neg (fun hh => by omega)]
  exact h
set_option maxRecDepth 100000 in
set_option maxHeartbeats 8000000 in
theorem set_not (s s1 : List Nat) (G : Option (List Nat)) (w : World) (hb : ∀ x ∈ s, x < 256) (hs : s.length ≤ 1000) (hh : s = 94 :: s1) (H0 : Hid (SetAt G s1 0)) : Calls Try.prog 117 #[.string (bs s)] w (TreeEnd w G) := by
  have hl1 : s1.length ≤ 1000 := by rw [hh] at hs; simp at hs; omega
  have HB1 : Hid (∀ x ∈ s1, x < 256) := Lib.hid (by intro x hx; exact hb x (by rw [hh]; simp [hx]))
  have s1' : (w.alloc (.cells Try.zeroCells114 114)).heap.size = w.heap.size + 1 := by simp
  have K2 := Lib.hid (((Below.refl w.heap.size w).alloc (Nat.le_refl _) (.cells Try.zeroCells114 114)).alloc (by rw [s1']; omega) (.cells Try.zeroCells114 114))
  have B20 := Lib.hid ((Blk.new w 114 Try.zeroCells114).alloc (.cells Try.zeroCells114 114))
  have B50 : Hid (Blk ((w.alloc (.cells Try.zeroCells114 114)).alloc (.cells Try.zeroCells114 114)) (w.heap.size + 1) 114 Try.zeroCells114) := Lib.hid (Blk.new_at s1'.symm)
  clear s1'
  unfold TreeEnd
  go_enter Try.func117, Try.ntmps117
  go_upto_region 2 with fail
  generalize (w.alloc (.cells Try.zeroCells114 114)).alloc (.cells Try.zeroCells114 114) = w2 at *
  rw [zero114] at B20 B50
  obtain ⟨b2, hb2⟩ : ∃ b, w.heap.size = b := ⟨_, rfl⟩
  obtain ⟨b5, hb5⟩ : ∃ b, w.heap.size + 1 = b := ⟨_, rfl⟩
  have HB2 : Hid (w.heap.size ≤ b2) := Lib.hid (by omega)
  have HB5 : Hid (w.heap.size ≤ b5) := Lib.hid (by omega)
  have HNE : Hid (b2 ≠ b5) := Lib.hid (by omega)
  rw [hb5, hb2]
  rw [hb5] at B50
  rw [hb2] at B20
  clear hb2 hb5
  have hidx := fun w => idx_bs (94 :: s1) 0 94 rfl (by omega) w
  rw [show ((0 : Nat) : Int) = 0 from rfl, show ((94 : Nat) : Int) = 94 from rfl] at hidx
  have hne : (bs (94 :: s1)).toList.isEmpty = false := by rw [bs_ne]; rfl
  have hsz : (bs (94 :: s1)).size = s1.length + 1 := by rw [bs_size]; rfl
  have ht : (bs (94 :: s1)).extract 1 (s1.length + 1) = bs s1 := by have := bs_tail 94 s1; rwa [hsz] at this
  rw [hh]
  clear hh hb hs
  generalize bs (94 :: s1) = bb at *
  go_wp2
  clear hidx hne hsz ht
  go_loopw [0, 7] (fun s0 s7 wr => ∃ (t : List Nat) (cnt : Nat) (x : List Bool), s0 = .string (bs t) ∧ s7 = .int .i64 (cnt : Int) ∧ cnt + t.length ≤ s1.length ∧ Hid (SetAt G t cnt) ∧ Hid (∀ x ∈ t, x < 256) ∧ Hid (x.length = 256) ∧ Hid (Blk wr b2 114 (tcl 0 Rx.noSet (.slice none 0 0)).toArray) ∧ Hid (Blk wr b5 114 (tcl 0 x (.slice none 0 0)).toArray) ∧ Hid (Below w.heap.size w wr)) (fun s0 _ _ => strLen s0)
  case atStart => exact ⟨s1, 0, Rx.noSet, rfl, rfl, by omega, H0, HB1, Lib.hid noSet_len, B20, B50, K2⟩
  case round =>
    obtain ⟨t, cnt, x, rfl, rfl, hct, HA, HBT, HXL, B2, BT, K⟩ := hrel
    cases t with
    | nil =>
      obtain rfl : G = none := setAt_nil HA.out
      rw [bs_nil]
      have HCX : Hid (TrC (tcl 0 x (.slice none 0 0))) := Lib.hid (trc_tcl _ _ _ HXL.out rfl)
      have HRX := Lib.hid (blk_range BT.out)
      have HT2 : Hid (wr.there b2 0 (tcl 0 x (.slice none 0 0)).toArray.size) := Lib.hid (by
        have e : (tcl 0 x (.slice none 0 0)).toArray.size = 258 := HCX.out.len
        rw [e]
        exact blk_there B2.out 258 (by rw [trc_zero.len]; exact Nat.le_refl _))
      go_wp2_with (first | (refine wpList_load_mid rfl 114 _ rfl b5 0 rfl (tcl 0 x (.slice none 0 0)) _ HRX.out Try.underlying114 rfl HCX.out.siz ?_) | (refine wpList_store_mid rfl 114 _ _ rfl b2 0 (tcl 0 x (.slice none 0 0)).toArray rfl rfl HT2.out HCX.out.sizA (all_oneCell_toArray HCX.out.one) ?_))
      have hl := load_tree (World.rangeAt_setCells_same wr b2 0 (tcl 0 x (.slice none 0 0)) HT2.out) HCX.out
      refine bodyPost_ret (v := .tuple #[.agg (tcl 0 x (.slice none 0 0)).toArray, .string ⟨#[]⟩, .bool false]) (results_cell3 Try.results117 rfl hl) rfl ⟨_, HCX.out, ?_, rfl⟩
      exact below_setCells HB2.out _ _ K.out
    | cons c r =>
      have hbt := HBT.out
      have hcb := hbt c (by simp)
      have hidx := fun w => idx_bs (c :: r) 0 c rfl hcb w
      rw [show ((0 : Nat) : Int) = 0 from rfl] at hidx
      have hne : (bs (c :: r)).toList.isEmpty = false := by rw [bs_ne]; rfl
      have hsz : (bs (c :: r)).size = r.length + 1 := by rw [bs_size]; rfl
      have hstl : strLen (.string (bs (c :: r))) = r.length + 1 := strLen_bs _
      have ht : (bs (c :: r)).extract 1 (r.length + 1) = bs r := by have := bs_tail c r; rwa [hsz] at this
      simp only [List.length_cons] at hct
      by_cases h93 : c = 93
      · subst h93
        rw [show ((93 : Nat) : Int) = 93 from rfl] at hidx
        have h0r := hne
        by_cases hc0 : cnt = 0
        · subst hc0
          rw [show ((0 : Nat) : Int) = 0 from rfl]
          obtain rfl : G = none := setAt_end0 HA.out
          clear hbt ht
          generalize bs (93 :: r) = bb at *
          have HCX : Hid (TrC (tcl 0 x (.slice none 0 0))) := Lib.hid (trc_tcl _ _ _ HXL.out rfl)
          have HRX := Lib.hid (blk_range BT.out)
          have HT2 : Hid (wr.there b2 0 (tcl 0 x (.slice none 0 0)).toArray.size) := Lib.hid (by
            have e : (tcl 0 x (.slice none 0 0)).toArray.size = 258 := HCX.out.len
            rw [e]
            exact blk_there B2.out 258 (by rw [trc_zero.len]; exact Nat.le_refl _))
          go_wp2_with (first | (refine wpList_load_mid rfl 114 _ rfl b5 0 rfl (tcl 0 x (.slice none 0 0)) _ HRX.out Try.underlying114 rfl HCX.out.siz ?_) | (refine wpList_store_mid rfl 114 _ _ rfl b2 0 (tcl 0 x (.slice none 0 0)).toArray rfl rfl HT2.out HCX.out.sizA (all_oneCell_toArray HCX.out.one) ?_))
          have hl := load_tree (World.rangeAt_setCells_same wr b2 0 (tcl 0 x (.slice none 0 0)) HT2.out) HCX.out
          refine bodyPost_ret (v := .tuple #[.agg (tcl 0 x (.slice none 0 0)).toArray, .string ⟨#[]⟩, .bool false]) (results_cell3 Try.results117 rfl hl) rfl ⟨_, HCX.out, ?_, rfl⟩
          exact below_setCells HB2.out _ _ K.out
        · have f3 : ((cnt : Int) == 0) = false := beq_eq_false_iff_ne.2 (by omega)
          have f4 : (cnt == 0) = false := beq_eq_false_iff_ne.2 hc0
          obtain rfl : G = some r := setAt_end HA.out hc0
          clear hbt HA
          generalize bs (93 :: r) = bb at *
          go_wp2
          go_loopw [13] (fun s13 wv => ∃ (k : Nat) (x2 : List Bool), s13 = .int .i64 (k : Int) ∧ k ≤ 256 ∧ Hid (x2.length = 256) ∧ Hid (Blk wv b2 114 (tcl 0 Rx.noSet (.slice none 0 0)).toArray) ∧ Hid (Blk wv b5 114 (tcl 0 x2 (.slice none 0 0)).toArray) ∧ Hid (Below w.heap.size w wv)) (fun s13 _ => 256 - (intOf s13).toNat)
          case atStart => exact ⟨0, x, rfl, by omega, HXL, B2, BT, K⟩
          case round =>
            obtain ⟨k, x2, rfl, hk1, HXF, B2, BT, KK0⟩ := hrel
            by_cases hkh : k < 256
            · have hkI : (k : Int) < 256 := by omega
              have hk0 : (0 : Int) ≤ (k : Int) := by omega
              have hkd : decide ((k : Int) < 256) = true := by simp; omega
              have hkn : decide (k < 256) = true := by simp; omega
              obtain ⟨vb, hvb⟩ : ∃ vb, x2[k]? = some vb := ⟨_, List.getElem?_eq_getElem (by rw [HXF.out]; omega)⟩
              have z0 : wr.cell? ⟨b5, 1 + k, none⟩ = some (.bool vb) := (BT.out.cell (1 + k)).trans (by rw [List.getElem?_toArray]; exact tcl_get _ _ _ k vb hvb)
              have z1 := BT.out.frozen (1 + k)
              have B4 : Hid (Blk (wr.setCell ⟨b5, 1 + k, none⟩ (.bool !vb)) b5 114 (tcl 0 (x2.set k !vb) (.slice none 0 0)).toArray) := Lib.hid (by
                have h := BT.out.set_ (1 + k) (.bool !vb)
                rwa [List.setIfInBounds_toArray, tcl_set _ _ _ _ _ (by rw [HXF.out]; omega)] at h)
              have B6 := Lib.hid (B2.out.far (p := ⟨b5, 1 + k, none⟩) HNE.out (.bool !vb))
              have K4 := Lib.hid (KK0.out.setCell (p := ⟨b5, 1 + k, none⟩) HB5.out (.bool !vb))
              clear hvb
              go_wp2
              go_roundw
              case rel => exact ⟨k + 1, x2.set k !vb, by go_num, by omega, Lib.hid (by rw [List.length_set]; exact HXF.out), B6, B4, K4⟩
              case measure => (simp [intOf] <;> omega)
            · obtain rfl : k = 256 := by omega
              rw [show ((256 : Nat) : Int) = 256 from rfl]
              have hkd : decide ((256 : Int) < 256) = false := rfl
              go_wp2
              have HCX : Hid (TrC (tcl 0 x2 (.slice none 0 0))) := Lib.hid (trc_tcl _ _ _ HXF.out rfl)
              have HRX := Lib.hid (blk_range BT.out)
              have HT2 : Hid (wr.there b2 0 258) := Lib.hid (blk_there B2.out 258 (by rw [trc_zero.len]; exact Nat.le_refl _))
              generalize tcl 0 x2 (.slice none 0 0) = cs at *
              have hr1 : (1 : Int) ≤ (r.length : Int) + 1 := by omega
              refine wp_region_held_drew (S := (fun X => X.rangeAt b5 0 cs ∧ X.there b2 0 258)) (by kernel_rfl) (by exact ⟨HRX.out, HT2.out⟩) (fun hHeld => ?_)
              refine wpAnyH_take (i := 1) (v := ?_) (by simp only [List.getElem?_toArray, List.getElem?_cons_succ, List.getElem?_cons_zero]; exact rfl) (by decide +kernel) (by decide +kernel) (by decide +kernel) (by exact fun _ _ _ h => h) (Or.inl ⟨by rfl, ?_⟩) (by assumption) ?_
              rotate_left
              · (intro w hSw; (try dsimp only at hSw); go_simp; try with_reducible rfl)
              try simp only [Act.put, List.setIfInBounds_toArray, List.set_cons_zero, List.set_cons_succ]
              refine wpAnyH_take (i := 2) (v := ?_) (by simp only [List.getElem?_toArray, List.getElem?_cons_succ, List.getElem?_cons_zero]; exact rfl) (by decide +kernel) (by decide +kernel) (by decide +kernel) (by exact fun _ _ _ h => h) (Or.inl ⟨by rfl, ?_⟩) (by assumption) ?_
              rotate_left
              · (intro w hSw; (try dsimp only at hSw); go_simp; try with_reducible rfl)
              try simp only [Act.put, List.setIfInBounds_toArray, List.set_cons_zero, List.set_cons_succ]
              refine wpAnyH_take (i := 0) (v := .agg (List.toArray cs)) (by simp only [List.getElem?_toArray, List.getElem?_cons_succ, List.getElem?_cons_zero]; exact rfl) (by decide +kernel) (by decide +kernel) (by decide +kernel) (by exact fun _ _ _ h => h) (yieldsIf_load_mid (by rfl) _ _ (by rfl) b5 0 (by rfl) cs _ (fun X hX => hX.1) Try.underlying114 (by rfl) HCX.out.siz) (by assumption) ?_
              try simp only [Act.put, List.setIfInBounds_toArray, List.set_cons_zero, List.set_cons_succ]
              refine wpAnyH_ready (rs := [3]) (by kernel_rfl) (by simp) ?_
              refine AllReadyH.cons (by simp only [List.getElem?_toArray, List.getElem?_cons_succ, List.getElem?_cons_zero]; exact rfl) (fun K hK => ?_) AllReadyH.nil
              rw [if_pos (by rfl)]
              refine wp_store_mid _ _ _ (by rfl) b2 0 (List.toArray cs) (by rfl) (by rfl) (by rw [show cs.toArray.size = 258 from HCX.out.len]; exact hHeld.2) HCX.out.sizA (all_oneCell_toArray HCX.out.one) ?_
              refine hK.out _ _ (by exact ⟨World.rangeAt_setCells_apart hHeld.1 _ _ _ (.inl (Ne.symm HNE.out)), World.there_setCells hHeld.2 _ _ _⟩) (fun hHeld => ?_)
              clear hK K
              try simp only [Act.put, List.setIfInBounds_toArray, List.set_cons_zero, List.set_cons_succ]
              refine wpAnyH_take (i := 4) (v := ?_) (by simp only [List.getElem?_toArray, List.getElem?_cons_succ, List.getElem?_cons_zero]; exact rfl) (by decide +kernel) (by decide +kernel) (by decide +kernel) (by exact fun _ _ _ h => h) (Or.inl ⟨by rfl, ?_⟩) (by assumption) ?_
              rotate_left
              · (intro w hSw; (try dsimp only at hSw); go_simp; try with_reducible rfl)
              try simp only [Act.put, List.setIfInBounds_toArray, List.set_cons_zero, List.set_cons_succ]
              refine wpAnyH_take (i := 5) (v := ?_) (by simp only [List.getElem?_toArray, List.getElem?_cons_succ, List.getElem?_cons_zero]; exact rfl) (by decide +kernel) (by decide +kernel) (by decide +kernel) (by exact fun _ _ _ h => h) (Or.inl ⟨by rfl, ?_⟩) (by assumption) ?_
              rotate_left
              · (intro w hSw; (try dsimp only at hSw); go_simp; try with_reducible rfl)
              try simp only [Act.put, List.setIfInBounds_toArray, List.set_cons_zero, List.set_cons_succ]
              refine wpAnyH_done (by kernel_rfl) ?_ _
              go_wp2
              have hld := load_tree (World.rangeAt_setCells_same wr.drew b2 0 cs (by rw [HCX.out.len]; exact HT2.out)) HCX.out
              refine bodyPost_ret (v := .tuple #[.agg cs.toArray, .string (bs r), .bool true]) (results_cell3 Try.results117 rfl hld) rfl ⟨_, HCX.out, ?_, rfl⟩
              exact below_setCells HB2.out _ _ KK0.out.drew
      · have f1 : ((c : Int) == 93) = false := beq_eq_false_iff_ne.2 (by omega)
        have f2 : (c == 93) = false := beq_eq_false_iff_ne.2 h93
        have HSTP := Lib.hid (setAt_step HA.out (by simpa using h93))
        have HIS := Lib.hid (fun w => inSet_any (c :: r) hbt w)
        unfold membVal at HIS
        cases hm : Rx.memb (c :: r) with
        | none =>
          rw [hm] at HIS HSTP
          obtain rfl : G = none := HSTP.out
          simp only at HIS
          clear HSTP hm ht hbt
          generalize bs (c :: r) = bb at *
          go_wp2_with fail
          refine (HIS.out _).mono ?_
          rintro e w7 ⟨rfl, hbk⟩
          have BT := Lib.hid (BT.out.below hbk BT.out.lt)
          have B2 := Lib.hid (B2.out.below hbk B2.out.lt)
          have KK := Lib.hid (below_then K.out K.out.size hbk)
          clear hbk
          have HCX : Hid (TrC (tcl 0 x (.slice none 0 0))) := Lib.hid (trc_tcl _ _ _ HXL.out rfl)
          have HRX := Lib.hid (blk_range BT.out)
          have HT2 : Hid (w7.there b2 0 (tcl 0 x (.slice none 0 0)).toArray.size) := Lib.hid (by
            have e : (tcl 0 x (.slice none 0 0)).toArray.size = 258 := HCX.out.len
            rw [e]
            exact blk_there B2.out 258 (by rw [trc_zero.len]; exact Nat.le_refl _))
          go_wp2_with (first | (refine wpList_load_mid rfl 114 _ rfl b5 0 rfl (tcl 0 x (.slice none 0 0)) _ HRX.out Try.underlying114 rfl HCX.out.siz ?_) | (refine wpList_store_mid rfl 114 _ _ rfl b2 0 (tcl 0 x (.slice none 0 0)).toArray rfl rfl HT2.out HCX.out.sizA (all_oneCell_toArray HCX.out.one) ?_))
          have hl := load_tree (World.rangeAt_setCells_same w7 b2 0 (tcl 0 x (.slice none 0 0)) HT2.out) HCX.out
          refine bodyPost_ret (v := .tuple #[.agg (tcl 0 x (.slice none 0 0)).toArray, .string ⟨#[]⟩, .bool false]) (results_cell3 Try.results117 rfl hl) rfl ⟨_, HCX.out, ?_, rfl⟩
          exact below_setCells HB2.out _ _ KK.out

        | some q =>
          obtain ⟨lo, u⟩ := q
          rw [hm] at HIS HSTP
          simp only at HIS HSTP
          obtain ⟨hlo, hub⟩ := memb_bytes hm hbt
          have hul := Rx.memb_short hm
          simp only [List.length_cons] at hul
          clear hm ht hbt
          have HUB := Lib.hid hub
          generalize bs (c :: r) = bb at *
          go_wp2_with fail
          refine (HIS.out _).mono ?_
          rintro e w7 ⟨rfl, hbk⟩
          have BT := Lib.hid (BT.out.below hbk BT.out.lt)
          have B2 := Lib.hid (B2.out.below hbk B2.out.lt)
          have KK := Lib.hid (below_then K.out K.out.size hbk)
          clear hbk
          clear hidx hne hsz f1 f2 h93
          cases u with
          | nil =>
            have HNX : Hid (SetAt G [] (cnt + 1)) := Lib.hid (setAt_next (by have h := HSTP.out; rwa [if_neg (by decide)] at h))
            have HRB := HUB
            clear HSTP
            simp only [bs_nil]
            have hlo0 : (0 : Int) ≤ (lo : Int) := by omega
            have hwl : IntKind.i64.wrap (lo : Int) = (lo : Int) := by rw [IntKind.wrap_i64]; omega
            have hwh : IntKind.i64.wrap (lo : Int) = (lo : Int) := by rw [IntKind.wrap_i64]; omega
            have hwc : IntKind.i64.wrap ((cnt : Int) + 1) = (cnt : Int) + 1 := by rw [IntKind.wrap_i64]; omega
            go_wp2
            go_loopw [12] (fun s12 wv => ∃ (k : Nat) (x2 : List Bool), s12 = .int .i64 (k : Int) ∧ lo ≤ k ∧ k ≤ lo + 1 ∧ Hid (x2.length = 256) ∧ Hid (Blk wv b2 114 (tcl 0 Rx.noSet (.slice none 0 0)).toArray) ∧ Hid (Blk wv b5 114 (tcl 0 x2 (.slice none 0 0)).toArray) ∧ Hid (Below w.heap.size w wv)) (fun s12 _ => lo + 1 - (intOf s12).toNat)
            case atStart => exact ⟨lo, x, rfl, Nat.le_refl _, by omega, HXL, B2, BT, KK⟩
            case round =>
              obtain ⟨k, x2, rfl, hk1, hk2, HX2, B2, BT, K2⟩ := hrel
              by_cases hkh : k ≤ lo
              · have hkI : (k : Int) ≤ (lo : Int) := by omega
                have hk0 : (0 : Int) ≤ (k : Int) := by omega
                have hk5 : (k : Int) < 256 := by omega
                have hkd : decide ((k : Int) ≤ (lo : Int)) = true := by simp; omega
                obtain ⟨vb, hvb⟩ : ∃ vb, x2[k]? = some vb := ⟨_, List.getElem?_eq_getElem (by rw [HX2.out]; omega)⟩
                have z0 : wr.cell? ⟨b5, 1 + k, none⟩ = some (.bool vb) := (BT.out.cell (1 + k)).trans (by rw [List.getElem?_toArray]; exact tcl_get _ _ _ k vb hvb)
                have z1 := BT.out.frozen (1 + k)
                have B4 : Hid (Blk (wr.setCell ⟨b5, 1 + k, none⟩ (.bool true)) b5 114 (tcl 0 (x2.set k true) (.slice none 0 0)).toArray) := Lib.hid (by
                  have h := BT.out.set_ (1 + k) (.bool true)
                  rwa [List.setIfInBounds_toArray, tcl_set _ _ _ _ _ (by rw [HX2.out]; omega)] at h)
                have B6 := Lib.hid (B2.out.far (p := ⟨b5, 1 + k, none⟩) HNE.out (.bool true))
                have K4 := Lib.hid (K2.out.setCell (p := ⟨b5, 1 + k, none⟩) HB5.out (.bool true))
                clear hvb
                go_wp2
                go_roundw
                case rel => exact ⟨k + 1, x2.set k true, by go_num, by omega, by omega, Lib.hid (by rw [List.length_set]; exact HX2.out), B6, B4, K4⟩
                case measure => (simp [intOf] <;> omega)
              · have hkI : ¬ (k : Int) ≤ (lo : Int) := by omega
                have hkd : decide ((k : Int) ≤ (lo : Int)) = false := by simp; omega
                go_wp2
                go_roundw
                case rel => exact ⟨[], cnt + 1, x2, rfl, by go_num, (by first | omega | (simp only [List.length_cons, List.length_nil]; omega)), HNX, HRB, HX2, B2, BT, K2⟩
                case measure => (first | (simp only [strLen_bs, List.length_cons, List.length_nil]; omega) | (rw [hstl]; show (0 : Nat) < _; omega) | (rw [strLen_bs, hstl]; simp only [List.length_cons, List.length_nil]; omega))
          | cons d u1 =>
            have hui := fun w => idx_bs (d :: u1) 0 d rfl (hub d (by simp)) w
            rw [show ((0 : Nat) : Int) = 0 from rfl] at hui
            have hus : (bs (d :: u1)).size = u1.length + 1 := by rw [bs_size]; rfl
            simp only [List.length_cons] at hul
            cases u1 with
            | nil =>
              have HNX : Hid (SetAt G [d] (cnt + 1)) := Lib.hid (setAt_next (by have h := HSTP.out; rwa [if_neg (by simp [Rx.rng])] at h))
              have HRB := HUB
              clear HSTP
              simp only [List.length_nil] at hus
              have hbu : Hid (bs [d] = bs [d]) := Lib.hid rfl
              have hlo0 : (0 : Int) ≤ (lo : Int) := by omega
              have hwl : IntKind.i64.wrap (lo : Int) = (lo : Int) := by rw [IntKind.wrap_i64]; omega
              have hwh : IntKind.i64.wrap (lo : Int) = (lo : Int) := by rw [IntKind.wrap_i64]; omega
              have hwc : IntKind.i64.wrap ((cnt : Int) + 1) = (cnt : Int) + 1 := by rw [IntKind.wrap_i64]; omega
              go_wp2
              go_loopw [12] (fun s12 wv => ∃ (k : Nat) (x2 : List Bool), s12 = .int .i64 (k : Int) ∧ lo ≤ k ∧ k ≤ lo + 1 ∧ Hid (x2.length = 256) ∧ Hid (Blk wv b2 114 (tcl 0 Rx.noSet (.slice none 0 0)).toArray) ∧ Hid (Blk wv b5 114 (tcl 0 x2 (.slice none 0 0)).toArray) ∧ Hid (Below w.heap.size w wv)) (fun s12 _ => lo + 1 - (intOf s12).toNat)
              case atStart => exact ⟨lo, x, rfl, Nat.le_refl _, by omega, HXL, B2, BT, KK⟩
              case round =>
                obtain ⟨k, x2, rfl, hk1, hk2, HX2, B2, BT, K2⟩ := hrel
                by_cases hkh : k ≤ lo
                · have hkI : (k : Int) ≤ (lo : Int) := by omega
                  have hk0 : (0 : Int) ≤ (k : Int) := by omega
                  have hk5 : (k : Int) < 256 := by omega
                  have hkd : decide ((k : Int) ≤ (lo : Int)) = true := by simp; omega
                  obtain ⟨vb, hvb⟩ : ∃ vb, x2[k]? = some vb := ⟨_, List.getElem?_eq_getElem (by rw [HX2.out]; omega)⟩
                  have z0 : wr.cell? ⟨b5, 1 + k, none⟩ = some (.bool vb) := (BT.out.cell (1 + k)).trans (by rw [List.getElem?_toArray]; exact tcl_get _ _ _ k vb hvb)
                  have z1 := BT.out.frozen (1 + k)
                  have B4 : Hid (Blk (wr.setCell ⟨b5, 1 + k, none⟩ (.bool true)) b5 114 (tcl 0 (x2.set k true) (.slice none 0 0)).toArray) := Lib.hid (by
                    have h := BT.out.set_ (1 + k) (.bool true)
                    rwa [List.setIfInBounds_toArray, tcl_set _ _ _ _ _ (by rw [HX2.out]; omega)] at h)
                  have B6 := Lib.hid (B2.out.far (p := ⟨b5, 1 + k, none⟩) HNE.out (.bool true))
                  have K4 := Lib.hid (K2.out.setCell (p := ⟨b5, 1 + k, none⟩) HB5.out (.bool true))
                  clear hvb
                  go_wp2
                  go_roundw
                  case rel => exact ⟨k + 1, x2.set k true, by go_num, by omega, by omega, Lib.hid (by rw [List.length_set]; exact HX2.out), B6, B4, K4⟩
                  case measure => (simp [intOf] <;> omega)
                · have hkI : ¬ (k : Int) ≤ (lo : Int) := by omega
                  have hkd : decide ((k : Int) ≤ (lo : Int)) = false := by simp; omega
                  go_wp2
                  go_roundw
                  case rel => exact ⟨[d], cnt + 1, x2, rfl, by go_num, (by first | omega | (simp only [List.length_cons, List.length_nil]; omega)), HNX, HRB, HX2, B2, BT, K2⟩
                  case measure => (first | (simp only [strLen_bs, List.length_cons, List.length_nil]; omega) | (rw [hstl]; show (0 : Nat) < _; omega) | (rw [strLen_bs, hstl]; simp only [List.length_cons, List.length_nil]; omega))
            | cons e2 u2 =>
              have hui1 := fun w => idx_bs (d :: e2 :: u2) 1 e2 rfl (hub e2 (by simp)) w
              rw [show ((1 : Nat) : Int) = 1 from rfl] at hui1
              simp only [List.length_cons] at hus hul
              have hu1 : (1 : Int) < (u2.length : Int) + 1 + 1 := by omega
              by_cases h45 : d = 45
              · subst h45
                rw [show ((45 : Nat) : Int) = 45 from rfl] at hui
                by_cases he93 : e2 = 93
                · subst he93
                  rw [show ((93 : Nat) : Int) = 93 from rfl] at hui1
                  have HNX : Hid (SetAt G (45 :: 93 :: u2) (cnt + 1)) := Lib.hid (setAt_next (by have h := HSTP.out; rwa [if_neg (by simp [Rx.rng])] at h))
                  have HRB := HUB
                  clear HSTP
                  have hlo0 : (0 : Int) ≤ (lo : Int) := by omega
                  have hwl : IntKind.i64.wrap (lo : Int) = (lo : Int) := by rw [IntKind.wrap_i64]; omega
                  have hwh : IntKind.i64.wrap (lo : Int) = (lo : Int) := by rw [IntKind.wrap_i64]; omega
                  have hwc : IntKind.i64.wrap ((cnt : Int) + 1) = (cnt : Int) + 1 := by rw [IntKind.wrap_i64]; omega
                  go_wp2
                  go_loopw [12] (fun s12 wv => ∃ (k : Nat) (x2 : List Bool), s12 = .int .i64 (k : Int) ∧ lo ≤ k ∧ k ≤ lo + 1 ∧ Hid (x2.length = 256) ∧ Hid (Blk wv b2 114 (tcl 0 Rx.noSet (.slice none 0 0)).toArray) ∧ Hid (Blk wv b5 114 (tcl 0 x2 (.slice none 0 0)).toArray) ∧ Hid (Below w.heap.size w wv)) (fun s12 _ => lo + 1 - (intOf s12).toNat)
                  case atStart => exact ⟨lo, x, rfl, Nat.le_refl _, by omega, HXL, B2, BT, KK⟩
                  case round =>
                    obtain ⟨k, x2, rfl, hk1, hk2, HX2, B2, BT, K2⟩ := hrel
                    by_cases hkh : k ≤ lo
                    · have hkI : (k : Int) ≤ (lo : Int) := by omega
                      have hk0 : (0 : Int) ≤ (k : Int) := by omega
                      have hk5 : (k : Int) < 256 := by omega
                      have hkd : decide ((k : Int) ≤ (lo : Int)) = true := by simp; omega
                      obtain ⟨vb, hvb⟩ : ∃ vb, x2[k]? = some vb := ⟨_, List.getElem?_eq_getElem (by rw [HX2.out]; omega)⟩
                      have z0 : wr.cell? ⟨b5, 1 + k, none⟩ = some (.bool vb) := (BT.out.cell (1 + k)).trans (by rw [List.getElem?_toArray]; exact tcl_get _ _ _ k vb hvb)
                      have z1 := BT.out.frozen (1 + k)
                      have B4 : Hid (Blk (wr.setCell ⟨b5, 1 + k, none⟩ (.bool true)) b5 114 (tcl 0 (x2.set k true) (.slice none 0 0)).toArray) := Lib.hid (by
                        have h := BT.out.set_ (1 + k) (.bool true)
                        rwa [List.setIfInBounds_toArray, tcl_set _ _ _ _ _ (by rw [HX2.out]; omega)] at h)
                      have B6 := Lib.hid (B2.out.far (p := ⟨b5, 1 + k, none⟩) HNE.out (.bool true))
                      have K4 := Lib.hid (K2.out.setCell (p := ⟨b5, 1 + k, none⟩) HB5.out (.bool true))
                      clear hvb
                      go_wp2
                      go_roundw
                      case rel => exact ⟨k + 1, x2.set k true, by go_num, by omega, by omega, Lib.hid (by rw [List.length_set]; exact HX2.out), B6, B4, K4⟩
                      case measure => (simp [intOf] <;> omega)
                    · have hkI : ¬ (k : Int) ≤ (lo : Int) := by omega
                      have hkd : decide ((k : Int) ≤ (lo : Int)) = false := by simp; omega
                      go_wp2
                      go_roundw
                      case rel => exact ⟨(45 :: 93 :: u2), cnt + 1, x2, rfl, by go_num, (by first | omega | (simp only [List.length_cons, List.length_nil]; omega)), HNX, HRB, HX2, B2, BT, K2⟩
                      case measure => (first | (simp only [strLen_bs, List.length_cons, List.length_nil]; omega) | (rw [hstl]; show (0 : Nat) < _; omega) | (rw [strLen_bs, hstl]; simp only [List.length_cons, List.length_nil]; omega))
                · have g1 : ((e2 : Int) != 93) = true := by rw [bne_iff_ne]; omega
                  have g2 : ((e2 : Int) == 93) = false := beq_eq_false_iff_ne.2 (by omega)
                  have hst := HSTP.out
                  rw [if_pos (by simp [Rx.rng, he93])] at hst
                  have HST2 := Lib.hid hst
                  have HIS2 := Lib.hid (fun w => inSet_any (e2 :: u2) (fun x hx => hub x (by simp only [List.mem_cons] at hx ⊢; exact .inr hx)) w)
                  have hte : (bs (45 :: e2 :: u2)).extract 1 (u2.length + 1 + 1) = bs (e2 :: u2) := by have := bs_tail 45 (e2 :: u2); rwa [hus] at this
                  unfold membVal at HIS2
                  clear HSTP hst
                  simp only [List.tail_cons] at HST2
                  cases hm2 : Rx.memb (e2 :: u2) with
                  | none =>
                    rw [hm2] at HIS2 HST2
                    simp only at HIS2 HST2
                    obtain rfl : G = none := HST2.out
                    clear HST2 hm2 HUB hub
                    generalize bs (45 :: e2 :: u2) = bu at *
                    generalize bs (e2 :: u2) = bv at *
                    go_wp2_with fail
                    refine (HIS2.out _).mono ?_
                    rintro e w8 ⟨rfl, hbk⟩
                    have BT := Lib.hid (BT.out.below hbk BT.out.lt)
                    have B2 := Lib.hid (B2.out.below hbk B2.out.lt)
                    have KK := Lib.hid (below_then KK.out KK.out.size hbk)
                    clear hbk
                    have HCX : Hid (TrC (tcl 0 x (.slice none 0 0))) := Lib.hid (trc_tcl _ _ _ HXL.out rfl)
                    have HRX := Lib.hid (blk_range BT.out)
                    have HT2 : Hid (w8.there b2 0 (tcl 0 x (.slice none 0 0)).toArray.size) := Lib.hid (by
                      have e : (tcl 0 x (.slice none 0 0)).toArray.size = 258 := HCX.out.len
                      rw [e]
                      exact blk_there B2.out 258 (by rw [trc_zero.len]; exact Nat.le_refl _))
                    go_wp2_with (first | (refine wpList_load_mid rfl 114 _ rfl b5 0 rfl (tcl 0 x (.slice none 0 0)) _ HRX.out Try.underlying114 rfl HCX.out.siz ?_) | (refine wpList_store_mid rfl 114 _ _ rfl b2 0 (tcl 0 x (.slice none 0 0)).toArray rfl rfl HT2.out HCX.out.sizA (all_oneCell_toArray HCX.out.one) ?_))
                    have hl := load_tree (World.rangeAt_setCells_same w8 b2 0 (tcl 0 x (.slice none 0 0)) HT2.out) HCX.out
                    refine bodyPost_ret (v := .tuple #[.agg (tcl 0 x (.slice none 0 0)).toArray, .string ⟨#[]⟩, .bool false]) (results_cell3 Try.results117 rfl hl) rfl ⟨_, HCX.out, ?_, rfl⟩
                    exact below_setCells HB2.out _ _ KK.out
                  | some q2 =>
                    obtain ⟨hi, s2⟩ := q2
                    rw [hm2] at HIS2 HST2
                    simp only at HIS2 HST2
                    obtain ⟨hhi, hsb⟩ := memb_bytes hm2 (fun x hx => hub x (by simp only [List.mem_cons] at hx ⊢; exact .inr hx))
                    have hsl := Rx.memb_short hm2
                    simp only [List.length_cons] at hsl
                    have HRB := Lib.hid hsb
                    clear hm2 HUB hub hsb
                    generalize bs (45 :: e2 :: u2) = bu at *
                    generalize bs (e2 :: u2) = bv at *
                    go_wp2_with fail
                    refine (HIS2.out _).mono ?_
                    rintro e w8 ⟨rfl, hbk⟩
                    have BT := Lib.hid (BT.out.below hbk BT.out.lt)
                    have B2 := Lib.hid (B2.out.below hbk B2.out.lt)
                    have KK := Lib.hid (below_then KK.out KK.out.size hbk)
                    clear hbk
                    clear hui hui1 hus hte g1 g2
                    by_cases hhl : hi < lo
                    · have hI : (hi : Int) < (lo : Int) := by omega
                      obtain rfl : G = none := by have h := HST2.out; rwa [if_pos hhl] at h
                      have HCX : Hid (TrC (tcl 0 x (.slice none 0 0))) := Lib.hid (trc_tcl _ _ _ HXL.out rfl)
                      have HRX := Lib.hid (blk_range BT.out)
                      have HT2 : Hid (w8.there b2 0 (tcl 0 x (.slice none 0 0)).toArray.size) := Lib.hid (by
                        have e : (tcl 0 x (.slice none 0 0)).toArray.size = 258 := HCX.out.len
                        rw [e]
                        exact blk_there B2.out 258 (by rw [trc_zero.len]; exact Nat.le_refl _))
                      go_wp2_with (first | (refine wpList_load_mid rfl 114 _ rfl b5 0 rfl (tcl 0 x (.slice none 0 0)) _ HRX.out Try.underlying114 rfl HCX.out.siz ?_) | (refine wpList_store_mid rfl 114 _ _ rfl b2 0 (tcl 0 x (.slice none 0 0)).toArray rfl rfl HT2.out HCX.out.sizA (all_oneCell_toArray HCX.out.one) ?_))
                      have hl := load_tree (World.rangeAt_setCells_same w8 b2 0 (tcl 0 x (.slice none 0 0)) HT2.out) HCX.out
                      refine bodyPost_ret (v := .tuple #[.agg (tcl 0 x (.slice none 0 0)).toArray, .string ⟨#[]⟩, .bool false]) (results_cell3 Try.results117 rfl hl) rfl ⟨_, HCX.out, ?_, rfl⟩
                      exact below_setCells HB2.out _ _ KK.out
                    · have hI : ¬ (hi : Int) < (lo : Int) := by omega
                      have HNX : Hid (SetAt G s2 (cnt + 1)) := Lib.hid (setAt_next (by have h := HST2.out; rwa [if_neg hhl] at h))
                      clear HST2
                      have hlo0 : (0 : Int) ≤ (lo : Int) := by omega
                      have hwl : IntKind.i64.wrap (lo : Int) = (lo : Int) := by rw [IntKind.wrap_i64]; omega
                      have hwh : IntKind.i64.wrap (hi : Int) = (hi : Int) := by rw [IntKind.wrap_i64]; omega
                      have hwc : IntKind.i64.wrap ((cnt : Int) + 1) = (cnt : Int) + 1 := by rw [IntKind.wrap_i64]; omega
                      go_wp2
                      go_loopw [12] (fun s12 wv => ∃ (k : Nat) (x2 : List Bool), s12 = .int .i64 (k : Int) ∧ lo ≤ k ∧ k ≤ hi + 1 ∧ Hid (x2.length = 256) ∧ Hid (Blk wv b2 114 (tcl 0 Rx.noSet (.slice none 0 0)).toArray) ∧ Hid (Blk wv b5 114 (tcl 0 x2 (.slice none 0 0)).toArray) ∧ Hid (Below w.heap.size w wv)) (fun s12 _ => hi + 1 - (intOf s12).toNat)
                      case atStart => exact ⟨lo, x, rfl, Nat.le_refl _, by omega, HXL, B2, BT, KK⟩
                      case round =>
                        obtain ⟨k, x2, rfl, hk1, hk2, HX2, B2, BT, K2⟩ := hrel
                        by_cases hkh : k ≤ hi
                        · have hkI : (k : Int) ≤ (hi : Int) := by omega
                          have hk0 : (0 : Int) ≤ (k : Int) := by omega
                          have hk5 : (k : Int) < 256 := by omega
                          have hkd : decide ((k : Int) ≤ (hi : Int)) = true := by simp; omega
                          obtain ⟨vb, hvb⟩ : ∃ vb, x2[k]? = some vb := ⟨_, List.getElem?_eq_getElem (by rw [HX2.out]; omega)⟩
                          have z0 : wr.cell? ⟨b5, 1 + k, none⟩ = some (.bool vb) := (BT.out.cell (1 + k)).trans (by rw [List.getElem?_toArray]; exact tcl_get _ _ _ k vb hvb)
                          have z1 := BT.out.frozen (1 + k)
                          have B4 : Hid (Blk (wr.setCell ⟨b5, 1 + k, none⟩ (.bool true)) b5 114 (tcl 0 (x2.set k true) (.slice none 0 0)).toArray) := Lib.hid (by
                            have h := BT.out.set_ (1 + k) (.bool true)
                            rwa [List.setIfInBounds_toArray, tcl_set _ _ _ _ _ (by rw [HX2.out]; omega)] at h)
                          have B6 := Lib.hid (B2.out.far (p := ⟨b5, 1 + k, none⟩) HNE.out (.bool true))
                          have K4 := Lib.hid (K2.out.setCell (p := ⟨b5, 1 + k, none⟩) HB5.out (.bool true))
                          clear hvb
                          go_wp2
                          go_roundw
                          case rel => exact ⟨k + 1, x2.set k true, by go_num, by omega, by omega, Lib.hid (by rw [List.length_set]; exact HX2.out), B6, B4, K4⟩
                          case measure => (simp [intOf] <;> omega)
                        · have hkI : ¬ (k : Int) ≤ (hi : Int) := by omega
                          have hkd : decide ((k : Int) ≤ (hi : Int)) = false := by simp; omega
                          go_wp2
                          go_roundw
                          case rel => exact ⟨s2, cnt + 1, x2, rfl, by go_num, (by first | omega | (simp only [List.length_cons, List.length_nil]; omega)), HNX, HRB, HX2, B2, BT, K2⟩
                          case measure => (first | (simp only [strLen_bs, List.length_cons, List.length_nil]; omega) | (rw [hstl]; show (0 : Nat) < _; omega) | (rw [strLen_bs, hstl]; simp only [List.length_cons, List.length_nil]; omega))
              · have g1 : ((d : Int) == 45) = false := beq_eq_false_iff_ne.2 (by omega)
                have g2 : (d == 45) = false := beq_eq_false_iff_ne.2 h45
                have HNX : Hid (SetAt G (d :: e2 :: u2) (cnt + 1)) := Lib.hid (setAt_next (by have h := HSTP.out; rwa [if_neg (by simp [Rx.rng, h45])] at h))
                have HRB := HUB
                clear HSTP
                have hlo0 : (0 : Int) ≤ (lo : Int) := by omega
                have hwl : IntKind.i64.wrap (lo : Int) = (lo : Int) := by rw [IntKind.wrap_i64]; omega
                have hwh : IntKind.i64.wrap (lo : Int) = (lo : Int) := by rw [IntKind.wrap_i64]; omega
                have hwc : IntKind.i64.wrap ((cnt : Int) + 1) = (cnt : Int) + 1 := by rw [IntKind.wrap_i64]; omega
                go_wp2
                go_loopw [12] (fun s12 wv => ∃ (k : Nat) (x2 : List Bool), s12 = .int .i64 (k : Int) ∧ lo ≤ k ∧ k ≤ lo + 1 ∧ Hid (x2.length = 256) ∧ Hid (Blk wv b2 114 (tcl 0 Rx.noSet (.slice none 0 0)).toArray) ∧ Hid (Blk wv b5 114 (tcl 0 x2 (.slice none 0 0)).toArray) ∧ Hid (Below w.heap.size w wv)) (fun s12 _ => lo + 1 - (intOf s12).toNat)
                case atStart => exact ⟨lo, x, rfl, Nat.le_refl _, by omega, HXL, B2, BT, KK⟩
                case round =>
                  obtain ⟨k, x2, rfl, hk1, hk2, HX2, B2, BT, K2⟩ := hrel
                  by_cases hkh : k ≤ lo
                  · have hkI : (k : Int) ≤ (lo : Int) := by omega
                    have hk0 : (0 : Int) ≤ (k : Int) := by omega
                    have hk5 : (k : Int) < 256 := by omega
                    have hkd : decide ((k : Int) ≤ (lo : Int)) = true := by simp; omega
                    obtain ⟨vb, hvb⟩ : ∃ vb, x2[k]? = some vb := ⟨_, List.getElem?_eq_getElem (by rw [HX2.out]; omega)⟩
                    have z0 : wr.cell? ⟨b5, 1 + k, none⟩ = some (.bool vb) := (BT.out.cell (1 + k)).trans (by rw [List.getElem?_toArray]; exact tcl_get _ _ _ k vb hvb)
                    have z1 := BT.out.frozen (1 + k)
                    have B4 : Hid (Blk (wr.setCell ⟨b5, 1 + k, none⟩ (.bool true)) b5 114 (tcl 0 (x2.set k true) (.slice none 0 0)).toArray) := Lib.hid (by
                      have h := BT.out.set_ (1 + k) (.bool true)
                      rwa [List.setIfInBounds_toArray, tcl_set _ _ _ _ _ (by rw [HX2.out]; omega)] at h)
                    have B6 := Lib.hid (B2.out.far (p := ⟨b5, 1 + k, none⟩) HNE.out (.bool true))
                    have K4 := Lib.hid (K2.out.setCell (p := ⟨b5, 1 + k, none⟩) HB5.out (.bool true))
                    clear hvb
                    go_wp2
                    go_roundw
                    case rel => exact ⟨k + 1, x2.set k true, by go_num, by omega, by omega, Lib.hid (by rw [List.length_set]; exact HX2.out), B6, B4, K4⟩
                    case measure => (simp [intOf] <;> omega)
                  · have hkI : ¬ (k : Int) ≤ (lo : Int) := by omega
                    have hkd : decide ((k : Int) ≤ (lo : Int)) = false := by simp; omega
                    go_wp2
                    go_roundw
                    case rel => exact ⟨(d :: e2 :: u2), cnt + 1, x2, rfl, by go_num, (by first | omega | (simp only [List.length_cons, List.length_nil]; omega)), HNX, HRB, HX2, B2, BT, K2⟩
                    case measure => (first | (simp only [strLen_bs, List.length_cons, List.length_nil]; omega) | (rw [hstl]; show (0 : Nat) < _; omega) | (rw [strLen_bs, hstl]; simp only [List.length_cons, List.length_nil]; omega))

set_option maxRecDepth 100000 in
set_option maxHeartbeats 8000000 in
theorem set_plain (s s1 : List Nat) (G : Option (List Nat)) (w : World) (hb : ∀ x ∈ s, x < 256) (hs : s.length ≤ 1000) (hh : s1 = s) (hn : s.head? ≠ some 94) (H0 : Hid (SetAt G s1 0)) : Calls Try.prog 117 #[.string (bs s)] w (TreeEnd w G) := by
  have hl1 : s1.length ≤ 1000 := by rw [hh]; exact hs
  have HB1 : Hid (∀ x ∈ s1, x < 256) := Lib.hid (by rw [hh]; exact hb)
  have s1' : (w.alloc (.cells Try.zeroCells114 114)).heap.size = w.heap.size + 1 := by simp
  have K2 := Lib.hid (((Below.refl w.heap.size w).alloc (Nat.le_refl _) (.cells Try.zeroCells114 114)).alloc (by rw [s1']; omega) (.cells Try.zeroCells114 114))
  have B20 := Lib.hid ((Blk.new w 114 Try.zeroCells114).alloc (.cells Try.zeroCells114 114))
  have B50 : Hid (Blk ((w.alloc (.cells Try.zeroCells114 114)).alloc (.cells Try.zeroCells114 114)) (w.heap.size + 1) 114 Try.zeroCells114) := Lib.hid (Blk.new_at s1'.symm)
  clear s1'
  unfold TreeEnd
  go_enter Try.func117, Try.ntmps117
  go_upto_region 2 with fail
  generalize (w.alloc (.cells Try.zeroCells114 114)).alloc (.cells Try.zeroCells114 114) = w2 at *
  rw [zero114] at B20 B50
  obtain ⟨b2, hb2⟩ : ∃ b, w.heap.size = b := ⟨_, rfl⟩
  obtain ⟨b5, hb5⟩ : ∃ b, w.heap.size + 1 = b := ⟨_, rfl⟩
  have HB2 : Hid (w.heap.size ≤ b2) := Lib.hid (by omega)
  have HB5 : Hid (w.heap.size ≤ b5) := Lib.hid (by omega)
  have HNE : Hid (b2 ≠ b5) := Lib.hid (by omega)
  rw [hb5, hb2]
  rw [hb5] at B50
  rw [hb2] at B20
  clear hb2 hb5
  subst hh
  have hif : Hid True := Lib.hid trivial
  go_cut [6] from 14 to 109 (fun s6 wx => s6 = .bool false ∧ wx = w2)
  case first =>
    cases s1 with
    | nil =>
      rw [bs_nil]
      go_wp2
      go_meet
      case rel => exact ⟨rfl, rfl⟩
    | cons c r =>
      have hidx := fun w => idx_bs (c :: r) 0 c rfl (hb c (by simp)) w
      rw [show ((0 : Nat) : Int) = 0 from rfl] at hidx
      have hne : (bs (c :: r)).toList.isEmpty = false := by rw [bs_ne]; rfl
      have hsz : (bs (c :: r)).size = r.length + 1 := by rw [bs_size]; rfl
      have h94 : c ≠ 94 := by simpa using hn
      have f1 : ((c : Int) == 94) = false := beq_eq_false_iff_ne.2 (by omega)
      have f2 : (c == 94) = false := beq_eq_false_iff_ne.2 h94
      generalize bs (c :: r) = b at *
      generalize r.length = n at *
      go_wp2
      go_meet
      case rel => exact ⟨rfl, rfl⟩
  case rest =>
  obtain ⟨rfl, rfl⟩ := hcut
  rename_i _ w2'
  go_wp2
  go_loopw [0, 7] (fun s0 s7 wr => ∃ (t : List Nat) (cnt : Nat) (x : List Bool), s0 = .string (bs t) ∧ s7 = .int .i64 (cnt : Int) ∧ cnt + t.length ≤ s1.length ∧ Hid (SetAt G t cnt) ∧ Hid (∀ x ∈ t, x < 256) ∧ Hid (x.length = 256) ∧ Hid (Blk wr b2 114 (tcl 0 Rx.noSet (.slice none 0 0)).toArray) ∧ Hid (Blk wr b5 114 (tcl 0 x (.slice none 0 0)).toArray) ∧ Hid (Below w.heap.size w wr)) (fun s0 _ _ => strLen s0)
  case atStart => exact ⟨s1, 0, Rx.noSet, rfl, rfl, by omega, H0, HB1, Lib.hid noSet_len, B20, B50, K2⟩
  case round =>
    obtain ⟨t, cnt, x, rfl, rfl, hct, HA, HBT, HXL, B2, BT, K⟩ := hrel
    cases t with
    | nil =>
      obtain rfl : G = none := setAt_nil HA.out
      rw [bs_nil]
      have HCX : Hid (TrC (tcl 0 x (.slice none 0 0))) := Lib.hid (trc_tcl _ _ _ HXL.out rfl)
      have HRX := Lib.hid (blk_range BT.out)
      have HT2 : Hid (wr.there b2 0 (tcl 0 x (.slice none 0 0)).toArray.size) := Lib.hid (by
        have e : (tcl 0 x (.slice none 0 0)).toArray.size = 258 := HCX.out.len
        rw [e]
        exact blk_there B2.out 258 (by rw [trc_zero.len]; exact Nat.le_refl _))
      go_wp2_with (first | (refine wpList_load_mid rfl 114 _ rfl b5 0 rfl (tcl 0 x (.slice none 0 0)) _ HRX.out Try.underlying114 rfl HCX.out.siz ?_) | (refine wpList_store_mid rfl 114 _ _ rfl b2 0 (tcl 0 x (.slice none 0 0)).toArray rfl rfl HT2.out HCX.out.sizA (all_oneCell_toArray HCX.out.one) ?_))
      have hl := load_tree (World.rangeAt_setCells_same wr b2 0 (tcl 0 x (.slice none 0 0)) HT2.out) HCX.out
      refine bodyPost_ret (v := .tuple #[.agg (tcl 0 x (.slice none 0 0)).toArray, .string ⟨#[]⟩, .bool false]) (results_cell3 Try.results117 rfl hl) rfl ⟨_, HCX.out, ?_, rfl⟩
      exact below_setCells HB2.out _ _ K.out
    | cons c r =>
      have hbt := HBT.out
      have hcb := hbt c (by simp)
      have hidx := fun w => idx_bs (c :: r) 0 c rfl hcb w
      rw [show ((0 : Nat) : Int) = 0 from rfl] at hidx
      have hne : (bs (c :: r)).toList.isEmpty = false := by rw [bs_ne]; rfl
      have hsz : (bs (c :: r)).size = r.length + 1 := by rw [bs_size]; rfl
      have hstl : strLen (.string (bs (c :: r))) = r.length + 1 := strLen_bs _
      have ht : (bs (c :: r)).extract 1 (r.length + 1) = bs r := by have := bs_tail c r; rwa [hsz] at this
      simp only [List.length_cons] at hct
      by_cases h93 : c = 93
      · subst h93
        rw [show ((93 : Nat) : Int) = 93 from rfl] at hidx
        have h0r := hne
        by_cases hc0 : cnt = 0
        · subst hc0
          rw [show ((0 : Nat) : Int) = 0 from rfl]
          obtain rfl : G = none := setAt_end0 HA.out
          clear hbt ht
          generalize bs (93 :: r) = bb at *
          have HCX : Hid (TrC (tcl 0 x (.slice none 0 0))) := Lib.hid (trc_tcl _ _ _ HXL.out rfl)
          have HRX := Lib.hid (blk_range BT.out)
          have HT2 : Hid (wr.there b2 0 (tcl 0 x (.slice none 0 0)).toArray.size) := Lib.hid (by
            have e : (tcl 0 x (.slice none 0 0)).toArray.size = 258 := HCX.out.len
            rw [e]
            exact blk_there B2.out 258 (by rw [trc_zero.len]; exact Nat.le_refl _))
          go_wp2_with (first | (refine wpList_load_mid rfl 114 _ rfl b5 0 rfl (tcl 0 x (.slice none 0 0)) _ HRX.out Try.underlying114 rfl HCX.out.siz ?_) | (refine wpList_store_mid rfl 114 _ _ rfl b2 0 (tcl 0 x (.slice none 0 0)).toArray rfl rfl HT2.out HCX.out.sizA (all_oneCell_toArray HCX.out.one) ?_))
          have hl := load_tree (World.rangeAt_setCells_same wr b2 0 (tcl 0 x (.slice none 0 0)) HT2.out) HCX.out
          refine bodyPost_ret (v := .tuple #[.agg (tcl 0 x (.slice none 0 0)).toArray, .string ⟨#[]⟩, .bool false]) (results_cell3 Try.results117 rfl hl) rfl ⟨_, HCX.out, ?_, rfl⟩
          exact below_setCells HB2.out _ _ K.out
        · have f3 : ((cnt : Int) == 0) = false := beq_eq_false_iff_ne.2 (by omega)
          have f4 : (cnt == 0) = false := beq_eq_false_iff_ne.2 hc0
          obtain rfl : G = some r := setAt_end HA.out hc0
          clear hbt HA
          generalize bs (93 :: r) = bb at *
          go_wp2
          go_loopw [13] (fun s13 wv => s13 = .int .i64 0 ∧ wv = wr) (fun s13 _ => 256 - (intOf s13).toNat)
          case atStart => exact ⟨rfl, rfl⟩
          case round =>
            obtain ⟨rfl, rfl⟩ := hrel
            have HXF := HXL
            have KK0 := K
            go_wp2
            have HCX : Hid (TrC (tcl 0 x (.slice none 0 0))) := Lib.hid (trc_tcl _ _ _ HXF.out rfl)
            have HRX := Lib.hid (blk_range BT.out)
            have HT2 : Hid (wr.there b2 0 258) := Lib.hid (blk_there B2.out 258 (by rw [trc_zero.len]; exact Nat.le_refl _))
            generalize tcl 0 x (.slice none 0 0) = cs at *
            have hr1 : (1 : Int) ≤ (r.length : Int) + 1 := by omega
            refine wp_region_held_drew (S := (fun X => X.rangeAt b5 0 cs ∧ X.there b2 0 258)) (by kernel_rfl) (by exact ⟨HRX.out, HT2.out⟩) (fun hHeld => ?_)
            refine wpAnyH_take (i := 1) (v := ?_) (by simp only [List.getElem?_toArray, List.getElem?_cons_succ, List.getElem?_cons_zero]; exact rfl) (by decide +kernel) (by decide +kernel) (by decide +kernel) (by exact fun _ _ _ h => h) (Or.inl ⟨by rfl, ?_⟩) (by assumption) ?_
            rotate_left
            · (intro w hSw; (try dsimp only at hSw); go_simp; try with_reducible rfl)
            try simp only [Act.put, List.setIfInBounds_toArray, List.set_cons_zero, List.set_cons_succ]
            refine wpAnyH_take (i := 2) (v := ?_) (by simp only [List.getElem?_toArray, List.getElem?_cons_succ, List.getElem?_cons_zero]; exact rfl) (by decide +kernel) (by decide +kernel) (by decide +kernel) (by exact fun _ _ _ h => h) (Or.inl ⟨by rfl, ?_⟩) (by assumption) ?_
            rotate_left
            · (intro w hSw; (try dsimp only at hSw); go_simp; try with_reducible rfl)
            try simp only [Act.put, List.setIfInBounds_toArray, List.set_cons_zero, List.set_cons_succ]
            refine wpAnyH_take (i := 0) (v := .agg (List.toArray cs)) (by simp only [List.getElem?_toArray, List.getElem?_cons_succ, List.getElem?_cons_zero]; exact rfl) (by decide +kernel) (by decide +kernel) (by decide +kernel) (by exact fun _ _ _ h => h) (yieldsIf_load_mid (by rfl) _ _ (by rfl) b5 0 (by rfl) cs _ (fun X hX => hX.1) Try.underlying114 (by rfl) HCX.out.siz) (by assumption) ?_
            try simp only [Act.put, List.setIfInBounds_toArray, List.set_cons_zero, List.set_cons_succ]
            refine wpAnyH_ready (rs := [3]) (by kernel_rfl) (by simp) ?_
            refine AllReadyH.cons (by simp only [List.getElem?_toArray, List.getElem?_cons_succ, List.getElem?_cons_zero]; exact rfl) (fun K hK => ?_) AllReadyH.nil
            rw [if_pos (by rfl)]
            refine wp_store_mid _ _ _ (by rfl) b2 0 (List.toArray cs) (by rfl) (by rfl) (by rw [show cs.toArray.size = 258 from HCX.out.len]; exact hHeld.2) HCX.out.sizA (all_oneCell_toArray HCX.out.one) ?_
            refine hK.out _ _ (by exact ⟨World.rangeAt_setCells_apart hHeld.1 _ _ _ (.inl (Ne.symm HNE.out)), World.there_setCells hHeld.2 _ _ _⟩) (fun hHeld => ?_)
            clear hK K
            try simp only [Act.put, List.setIfInBounds_toArray, List.set_cons_zero, List.set_cons_succ]
            refine wpAnyH_take (i := 4) (v := ?_) (by simp only [List.getElem?_toArray, List.getElem?_cons_succ, List.getElem?_cons_zero]; exact rfl) (by decide +kernel) (by decide +kernel) (by decide +kernel) (by exact fun _ _ _ h => h) (Or.inl ⟨by rfl, ?_⟩) (by assumption) ?_
            rotate_left
            · (intro w hSw; (try dsimp only at hSw); go_simp; try with_reducible rfl)
            try simp only [Act.put, List.setIfInBounds_toArray, List.set_cons_zero, List.set_cons_succ]
            refine wpAnyH_take (i := 5) (v := ?_) (by simp only [List.getElem?_toArray, List.getElem?_cons_succ, List.getElem?_cons_zero]; exact rfl) (by decide +kernel) (by decide +kernel) (by decide +kernel) (by exact fun _ _ _ h => h) (Or.inl ⟨by rfl, ?_⟩) (by assumption) ?_
            rotate_left
            · (intro w hSw; (try dsimp only at hSw); go_simp; try with_reducible rfl)
            try simp only [Act.put, List.setIfInBounds_toArray, List.set_cons_zero, List.set_cons_succ]
            refine wpAnyH_done (by kernel_rfl) ?_ _
            go_wp2
            have hld := load_tree (World.rangeAt_setCells_same wr.drew b2 0 cs (by rw [HCX.out.len]; exact HT2.out)) HCX.out
            refine bodyPost_ret (v := .tuple #[.agg cs.toArray, .string (bs r), .bool true]) (results_cell3 Try.results117 rfl hld) rfl ⟨_, HCX.out, ?_, rfl⟩
            exact below_setCells HB2.out _ _ KK0.out.drew
      · have f1 : ((c : Int) == 93) = false := beq_eq_false_iff_ne.2 (by omega)
        have f2 : (c == 93) = false := beq_eq_false_iff_ne.2 h93
        have HSTP := Lib.hid (setAt_step HA.out (by simpa using h93))
        have HIS := Lib.hid (fun w => inSet_any (c :: r) hbt w)
        unfold membVal at HIS
        cases hm : Rx.memb (c :: r) with
        | none =>
          rw [hm] at HIS HSTP
          obtain rfl : G = none := HSTP.out
          simp only at HIS
          clear HSTP hm ht hbt
          generalize bs (c :: r) = bb at *
          go_wp2_with fail
          refine (HIS.out _).mono ?_
          rintro e w7 ⟨rfl, hbk⟩
          have BT := Lib.hid (BT.out.below hbk BT.out.lt)
          have B2 := Lib.hid (B2.out.below hbk B2.out.lt)
          have KK := Lib.hid (below_then K.out K.out.size hbk)
          clear hbk
          have HCX : Hid (TrC (tcl 0 x (.slice none 0 0))) := Lib.hid (trc_tcl _ _ _ HXL.out rfl)
          have HRX := Lib.hid (blk_range BT.out)
          have HT2 : Hid (w7.there b2 0 (tcl 0 x (.slice none 0 0)).toArray.size) := Lib.hid (by
            have e : (tcl 0 x (.slice none 0 0)).toArray.size = 258 := HCX.out.len
            rw [e]
            exact blk_there B2.out 258 (by rw [trc_zero.len]; exact Nat.le_refl _))
          go_wp2_with (first | (refine wpList_load_mid rfl 114 _ rfl b5 0 rfl (tcl 0 x (.slice none 0 0)) _ HRX.out Try.underlying114 rfl HCX.out.siz ?_) | (refine wpList_store_mid rfl 114 _ _ rfl b2 0 (tcl 0 x (.slice none 0 0)).toArray rfl rfl HT2.out HCX.out.sizA (all_oneCell_toArray HCX.out.one) ?_))
          have hl := load_tree (World.rangeAt_setCells_same w7 b2 0 (tcl 0 x (.slice none 0 0)) HT2.out) HCX.out
          refine bodyPost_ret (v := .tuple #[.agg (tcl 0 x (.slice none 0 0)).toArray, .string ⟨#[]⟩, .bool false]) (results_cell3 Try.results117 rfl hl) rfl ⟨_, HCX.out, ?_, rfl⟩
          exact below_setCells HB2.out _ _ KK.out

        | some q =>
          obtain ⟨lo, u⟩ := q
          rw [hm] at HIS HSTP
          simp only at HIS HSTP
          obtain ⟨hlo, hub⟩ := memb_bytes hm hbt
          have hul := Rx.memb_short hm
          simp only [List.length_cons] at hul
          clear hm ht hbt
          have HUB := Lib.hid hub
          generalize bs (c :: r) = bb at *
          go_wp2_with fail
          refine (HIS.out _).mono ?_
          rintro e w7 ⟨rfl, hbk⟩
          have BT := Lib.hid (BT.out.below hbk BT.out.lt)
          have B2 := Lib.hid (B2.out.below hbk B2.out.lt)
          have KK := Lib.hid (below_then K.out K.out.size hbk)
          clear hbk
          clear hidx hne hsz f1 f2 h93
          cases u with
          | nil =>
            have HNX : Hid (SetAt G [] (cnt + 1)) := Lib.hid (setAt_next (by have h := HSTP.out; rwa [if_neg (by decide)] at h))
            have HRB := HUB
            clear HSTP
            simp only [bs_nil]
            have hlo0 : (0 : Int) ≤ (lo : Int) := by omega
            have hwl : IntKind.i64.wrap (lo : Int) = (lo : Int) := by rw [IntKind.wrap_i64]; omega
            have hwh : IntKind.i64.wrap (lo : Int) = (lo : Int) := by rw [IntKind.wrap_i64]; omega
            have hwc : IntKind.i64.wrap ((cnt : Int) + 1) = (cnt : Int) + 1 := by rw [IntKind.wrap_i64]; omega
            go_wp2
            go_loopw [12] (fun s12 wv => ∃ (k : Nat) (x2 : List Bool), s12 = .int .i64 (k : Int) ∧ lo ≤ k ∧ k ≤ lo + 1 ∧ Hid (x2.length = 256) ∧ Hid (Blk wv b2 114 (tcl 0 Rx.noSet (.slice none 0 0)).toArray) ∧ Hid (Blk wv b5 114 (tcl 0 x2 (.slice none 0 0)).toArray) ∧ Hid (Below w.heap.size w wv)) (fun s12 _ => lo + 1 - (intOf s12).toNat)
            case atStart => exact ⟨lo, x, rfl, Nat.le_refl _, by omega, HXL, B2, BT, KK⟩
            case round =>
              obtain ⟨k, x2, rfl, hk1, hk2, HX2, B2, BT, K2⟩ := hrel
              by_cases hkh : k ≤ lo
              · have hkI : (k : Int) ≤ (lo : Int) := by omega
                have hk0 : (0 : Int) ≤ (k : Int) := by omega
                have hk5 : (k : Int) < 256 := by omega
                have hkd : decide ((k : Int) ≤ (lo : Int)) = true := by simp; omega
                obtain ⟨vb, hvb⟩ : ∃ vb, x2[k]? = some vb := ⟨_, List.getElem?_eq_getElem (by rw [HX2.out]; omega)⟩
                have z0 : wr.cell? ⟨b5, 1 + k, none⟩ = some (.bool vb) := (BT.out.cell (1 + k)).trans (by rw [List.getElem?_toArray]; exact tcl_get _ _ _ k vb hvb)
                have z1 := BT.out.frozen (1 + k)
                have B4 : Hid (Blk (wr.setCell ⟨b5, 1 + k, none⟩ (.bool true)) b5 114 (tcl 0 (x2.set k true) (.slice none 0 0)).toArray) := Lib.hid (by
                  have h := BT.out.set_ (1 + k) (.bool true)
                  rwa [List.setIfInBounds_toArray, tcl_set _ _ _ _ _ (by rw [HX2.out]; omega)] at h)
                have B6 := Lib.hid (B2.out.far (p := ⟨b5, 1 + k, none⟩) HNE.out (.bool true))
                have K4 := Lib.hid (K2.out.setCell (p := ⟨b5, 1 + k, none⟩) HB5.out (.bool true))
                clear hvb
                go_wp2
                go_roundw
                case rel => exact ⟨k + 1, x2.set k true, by go_num, by omega, by omega, Lib.hid (by rw [List.length_set]; exact HX2.out), B6, B4, K4⟩
                case measure => (simp [intOf] <;> omega)
              · have hkI : ¬ (k : Int) ≤ (lo : Int) := by omega
                have hkd : decide ((k : Int) ≤ (lo : Int)) = false := by simp; omega
                go_wp2
                go_roundw
                case rel => exact ⟨[], cnt + 1, x2, rfl, by go_num, (by first | omega | (simp only [List.length_cons, List.length_nil]; omega)), HNX, HRB, HX2, B2, BT, K2⟩
                case measure => (first | (simp only [strLen_bs, List.length_cons, List.length_nil]; omega) | (rw [hstl]; show (0 : Nat) < _; omega) | (rw [strLen_bs, hstl]; simp only [List.length_cons, List.length_nil]; omega))
          | cons d u1 =>
            have hui := fun w => idx_bs (d :: u1) 0 d rfl (hub d (by simp)) w
            rw [show ((0 : Nat) : Int) = 0 from rfl] at hui
            have hus : (bs (d :: u1)).size = u1.length + 1 := by rw [bs_size]; rfl
            simp only [List.length_cons] at hul
            cases u1 with
            | nil =>
              have HNX : Hid (SetAt G [d] (cnt + 1)) := Lib.hid (setAt_next (by have h := HSTP.out; rwa [if_neg (by simp [Rx.rng])] at h))
              have HRB := HUB
              clear HSTP
              simp only [List.length_nil] at hus
              have hbu : Hid (bs [d] = bs [d]) := Lib.hid rfl
              have hlo0 : (0 : Int) ≤ (lo : Int) := by omega
              have hwl : IntKind.i64.wrap (lo : Int) = (lo : Int) := by rw [IntKind.wrap_i64]; omega
              have hwh : IntKind.i64.wrap (lo : Int) = (lo : Int) := by rw [IntKind.wrap_i64]; omega
              have hwc : IntKind.i64.wrap ((cnt : Int) + 1) = (cnt : Int) + 1 := by rw [IntKind.wrap_i64]; omega
              go_wp2
              go_loopw [12] (fun s12 wv => ∃ (k : Nat) (x2 : List Bool), s12 = .int .i64 (k : Int) ∧ lo ≤ k ∧ k ≤ lo + 1 ∧ Hid (x2.length = 256) ∧ Hid (Blk wv b2 114 (tcl 0 Rx.noSet (.slice none 0 0)).toArray) ∧ Hid (Blk wv b5 114 (tcl 0 x2 (.slice none 0 0)).toArray) ∧ Hid (Below w.heap.size w wv)) (fun s12 _ => lo + 1 - (intOf s12).toNat)
              case atStart => exact ⟨lo, x, rfl, Nat.le_refl _, by omega, HXL, B2, BT, KK⟩
              case round =>
                obtain ⟨k, x2, rfl, hk1, hk2, HX2, B2, BT, K2⟩ := hrel
                by_cases hkh : k ≤ lo
                · have hkI : (k : Int) ≤ (lo : Int) := by omega
                  have hk0 : (0 : Int) ≤ (k : Int) := by omega
                  have hk5 : (k : Int) < 256 := by omega
                  have hkd : decide ((k : Int) ≤ (lo : Int)) = true := by simp; omega
                  obtain ⟨vb, hvb⟩ : ∃ vb, x2[k]? = some vb := ⟨_, List.getElem?_eq_getElem (by rw [HX2.out]; omega)⟩
                  have z0 : wr.cell? ⟨b5, 1 + k, none⟩ = some (.bool vb) := (BT.out.cell (1 + k)).trans (by rw [List.getElem?_toArray]; exact tcl_get _ _ _ k vb hvb)
                  have z1 := BT.out.frozen (1 + k)
                  have B4 : Hid (Blk (wr.setCell ⟨b5, 1 + k, none⟩ (.bool true)) b5 114 (tcl 0 (x2.set k true) (.slice none 0 0)).toArray) := Lib.hid (by
                    have h := BT.out.set_ (1 + k) (.bool true)
                    rwa [List.setIfInBounds_toArray, tcl_set _ _ _ _ _ (by rw [HX2.out]; omega)] at h)
                  have B6 := Lib.hid (B2.out.far (p := ⟨b5, 1 + k, none⟩) HNE.out (.bool true))
                  have K4 := Lib.hid (K2.out.setCell (p := ⟨b5, 1 + k, none⟩) HB5.out (.bool true))
                  clear hvb
                  go_wp2
                  go_roundw
                  case rel => exact ⟨k + 1, x2.set k true, by go_num, by omega, by omega, Lib.hid (by rw [List.length_set]; exact HX2.out), B6, B4, K4⟩
                  case measure => (simp [intOf] <;> omega)
                · have hkI : ¬ (k : Int) ≤ (lo : Int) := by omega
                  have hkd : decide ((k : Int) ≤ (lo : Int)) = false := by simp; omega
                  go_wp2
                  go_roundw
                  case rel => exact ⟨[d], cnt + 1, x2, rfl, by go_num, (by first | omega | (simp only [List.length_cons, List.length_nil]; omega)), HNX, HRB, HX2, B2, BT, K2⟩
                  case measure => (first | (simp only [strLen_bs, List.length_cons, List.length_nil]; omega) | (rw [hstl]; show (0 : Nat) < _; omega) | (rw [strLen_bs, hstl]; simp only [List.length_cons, List.length_nil]; omega))
            | cons e2 u2 =>
              have hui1 := fun w => idx_bs (d :: e2 :: u2) 1 e2 rfl (hub e2 (by simp)) w
              rw [show ((1 : Nat) : Int) = 1 from rfl] at hui1
              simp only [List.length_cons] at hus hul
              have hu1 : (1 : Int) < (u2.length : Int) + 1 + 1 := by omega
              by_cases h45 : d = 45
              · subst h45
                rw [show ((45 : Nat) : Int) = 45 from rfl] at hui
                by_cases he93 : e2 = 93
                · subst he93
                  rw [show ((93 : Nat) : Int) = 93 from rfl] at hui1
                  have HNX : Hid (SetAt G (45 :: 93 :: u2) (cnt + 1)) := Lib.hid (setAt_next (by have h := HSTP.out; rwa [if_neg (by simp [Rx.rng])] at h))
                  have HRB := HUB
                  clear HSTP
                  have hlo0 : (0 : Int) ≤ (lo : Int) := by omega
                  have hwl : IntKind.i64.wrap (lo : Int) = (lo : Int) := by rw [IntKind.wrap_i64]; omega
                  have hwh : IntKind.i64.wrap (lo : Int) = (lo : Int) := by rw [IntKind.wrap_i64]; omega
                  have hwc : IntKind.i64.wrap ((cnt : Int) + 1) = (cnt : Int) + 1 := by rw [IntKind.wrap_i64]; omega
                  go_wp2
                  go_loopw [12] (fun s12 wv => ∃ (k : Nat) (x2 : List Bool), s12 = .int .i64 (k : Int) ∧ lo ≤ k ∧ k ≤ lo + 1 ∧ Hid (x2.length = 256) ∧ Hid (Blk wv b2 114 (tcl 0 Rx.noSet (.slice none 0 0)).toArray) ∧ Hid (Blk wv b5 114 (tcl 0 x2 (.slice none 0 0)).toArray) ∧ Hid (Below w.heap.size w wv)) (fun s12 _ => lo + 1 - (intOf s12).toNat)
                  case atStart => exact ⟨lo, x, rfl, Nat.le_refl _, by omega, HXL, B2, BT, KK⟩
                  case round =>
                    obtain ⟨k, x2, rfl, hk1, hk2, HX2, B2, BT, K2⟩ := hrel
                    by_cases hkh : k ≤ lo
                    · have hkI : (k : Int) ≤ (lo : Int) := by omega
                      have hk0 : (0 : Int) ≤ (k : Int) := by omega
                      have hk5 : (k : Int) < 256 := by omega
                      have hkd : decide ((k : Int) ≤ (lo : Int)) = true := by simp; omega
                      obtain ⟨vb, hvb⟩ : ∃ vb, x2[k]? = some vb := ⟨_, List.getElem?_eq_getElem (by rw [HX2.out]; omega)⟩
                      have z0 : wr.cell? ⟨b5, 1 + k, none⟩ = some (.bool vb) := (BT.out.cell (1 + k)).trans (by rw [List.getElem?_toArray]; exact tcl_get _ _ _ k vb hvb)
                      have z1 := BT.out.frozen (1 + k)
                      have B4 : Hid (Blk (wr.setCell ⟨b5, 1 + k, none⟩ (.bool true)) b5 114 (tcl 0 (x2.set k true) (.slice none 0 0)).toArray) := Lib.hid (by
                        have h := BT.out.set_ (1 + k) (.bool true)
                        rwa [List.setIfInBounds_toArray, tcl_set _ _ _ _ _ (by rw [HX2.out]; omega)] at h)
                      have B6 := Lib.hid (B2.out.far (p := ⟨b5, 1 + k, none⟩) HNE.out (.bool true))
                      have K4 := Lib.hid (K2.out.setCell (p := ⟨b5, 1 + k, none⟩) HB5.out (.bool true))
                      clear hvb
                      go_wp2
                      go_roundw
                      case rel => exact ⟨k + 1, x2.set k true, by go_num, by omega, by omega, Lib.hid (by rw [List.length_set]; exact HX2.out), B6, B4, K4⟩
                      case measure => (simp [intOf] <;> omega)
                    · have hkI : ¬ (k : Int) ≤ (lo : Int) := by omega
                      have hkd : decide ((k : Int) ≤ (lo : Int)) = false := by simp; omega
                      go_wp2
                      go_roundw
                      case rel => exact ⟨(45 :: 93 :: u2), cnt + 1, x2, rfl, by go_num, (by first | omega | (simp only [List.length_cons, List.length_nil]; omega)), HNX, HRB, HX2, B2, BT, K2⟩
                      case measure => (first | (simp only [strLen_bs, List.length_cons, List.length_nil]; omega) | (rw [hstl]; show (0 : Nat) < _; omega) | (rw [strLen_bs, hstl]; simp only [List.length_cons, List.length_nil]; omega))
                · have g1 : ((e2 : Int) != 93) = true := by rw [bne_iff_ne]; omega
                  have g2 : ((e2 : Int) == 93) = false := beq_eq_false_iff_ne.2 (by omega)
                  have hst := HSTP.out
                  rw [if_pos (by simp [Rx.rng, he93])] at hst
                  have HST2 := Lib.hid hst
                  have HIS2 := Lib.hid (fun w => inSet_any (e2 :: u2) (fun x hx => hub x (by simp only [List.mem_cons] at hx ⊢; exact .inr hx)) w)
                  have hte : (bs (45 :: e2 :: u2)).extract 1 (u2.length + 1 + 1) = bs (e2 :: u2) := by have := bs_tail 45 (e2 :: u2); rwa [hus] at this
                  unfold membVal at HIS2
                  clear HSTP hst
                  simp only [List.tail_cons] at HST2
                  cases hm2 : Rx.memb (e2 :: u2) with
                  | none =>
                    rw [hm2] at HIS2 HST2
                    simp only at HIS2 HST2
                    obtain rfl : G = none := HST2.out
                    clear HST2 hm2 HUB hub
                    generalize bs (45 :: e2 :: u2) = bu at *
                    generalize bs (e2 :: u2) = bv at *
                    go_wp2_with fail
                    refine (HIS2.out _).mono ?_
                    rintro e w8 ⟨rfl, hbk⟩
                    have BT := Lib.hid (BT.out.below hbk BT.out.lt)
                    have B2 := Lib.hid (B2.out.below hbk B2.out.lt)
                    have KK := Lib.hid (below_then KK.out KK.out.size hbk)
                    clear hbk
                    have HCX : Hid (TrC (tcl 0 x (.slice none 0 0))) := Lib.hid (trc_tcl _ _ _ HXL.out rfl)
                    have HRX := Lib.hid (blk_range BT.out)
                    have HT2 : Hid (w8.there b2 0 (tcl 0 x (.slice none 0 0)).toArray.size) := Lib.hid (by
                      have e : (tcl 0 x (.slice none 0 0)).toArray.size = 258 := HCX.out.len
                      rw [e]
                      exact blk_there B2.out 258 (by rw [trc_zero.len]; exact Nat.le_refl _))
                    go_wp2_with (first | (refine wpList_load_mid rfl 114 _ rfl b5 0 rfl (tcl 0 x (.slice none 0 0)) _ HRX.out Try.underlying114 rfl HCX.out.siz ?_) | (refine wpList_store_mid rfl 114 _ _ rfl b2 0 (tcl 0 x (.slice none 0 0)).toArray rfl rfl HT2.out HCX.out.sizA (all_oneCell_toArray HCX.out.one) ?_))
                    have hl := load_tree (World.rangeAt_setCells_same w8 b2 0 (tcl 0 x (.slice none 0 0)) HT2.out) HCX.out
                    refine bodyPost_ret (v := .tuple #[.agg (tcl 0 x (.slice none 0 0)).toArray, .string ⟨#[]⟩, .bool false]) (results_cell3 Try.results117 rfl hl) rfl ⟨_, HCX.out, ?_, rfl⟩
                    exact below_setCells HB2.out _ _ KK.out
                  | some q2 =>
                    obtain ⟨hi, s2⟩ := q2
                    rw [hm2] at HIS2 HST2
                    simp only at HIS2 HST2
                    obtain ⟨hhi, hsb⟩ := memb_bytes hm2 (fun x hx => hub x (by simp only [List.mem_cons] at hx ⊢; exact .inr hx))
                    have hsl := Rx.memb_short hm2
                    simp only [List.length_cons] at hsl
                    have HRB := Lib.hid hsb
                    clear hm2 HUB hub hsb
                    generalize bs (45 :: e2 :: u2) = bu at *
                    generalize bs (e2 :: u2) = bv at *
                    go_wp2_with fail
                    refine (HIS2.out _).mono ?_
                    rintro e w8 ⟨rfl, hbk⟩
                    have BT := Lib.hid (BT.out.below hbk BT.out.lt)
                    have B2 := Lib.hid (B2.out.below hbk B2.out.lt)
                    have KK := Lib.hid (below_then KK.out KK.out.size hbk)
                    clear hbk
                    clear hui hui1 hus hte g1 g2
                    by_cases hhl : hi < lo
                    · have hI : (hi : Int) < (lo : Int) := by omega
                      obtain rfl : G = none := by have h := HST2.out; rwa [if_pos hhl] at h
                      have HCX : Hid (TrC (tcl 0 x (.slice none 0 0))) := Lib.hid (trc_tcl _ _ _ HXL.out rfl)
                      have HRX := Lib.hid (blk_range BT.out)
                      have HT2 : Hid (w8.there b2 0 (tcl 0 x (.slice none 0 0)).toArray.size) := Lib.hid (by
                        have e : (tcl 0 x (.slice none 0 0)).toArray.size = 258 := HCX.out.len
                        rw [e]
                        exact blk_there B2.out 258 (by rw [trc_zero.len]; exact Nat.le_refl _))
                      go_wp2_with (first | (refine wpList_load_mid rfl 114 _ rfl b5 0 rfl (tcl 0 x (.slice none 0 0)) _ HRX.out Try.underlying114 rfl HCX.out.siz ?_) | (refine wpList_store_mid rfl 114 _ _ rfl b2 0 (tcl 0 x (.slice none 0 0)).toArray rfl rfl HT2.out HCX.out.sizA (all_oneCell_toArray HCX.out.one) ?_))
                      have hl := load_tree (World.rangeAt_setCells_same w8 b2 0 (tcl 0 x (.slice none 0 0)) HT2.out) HCX.out
                      refine bodyPost_ret (v := .tuple #[.agg (tcl 0 x (.slice none 0 0)).toArray, .string ⟨#[]⟩, .bool false]) (results_cell3 Try.results117 rfl hl) rfl ⟨_, HCX.out, ?_, rfl⟩
                      exact below_setCells HB2.out _ _ KK.out
                    · have hI : ¬ (hi : Int) < (lo : Int) := by omega
                      have HNX : Hid (SetAt G s2 (cnt + 1)) := Lib.hid (setAt_next (by have h := HST2.out; rwa [if_neg hhl] at h))
                      clear HST2
                      have hlo0 : (0 : Int) ≤ (lo : Int) := by omega
                      have hwl : IntKind.i64.wrap (lo : Int) = (lo : Int) := by rw [IntKind.wrap_i64]; omega
                      have hwh : IntKind.i64.wrap (hi : Int) = (hi : Int) := by rw [IntKind.wrap_i64]; omega
                      have hwc : IntKind.i64.wrap ((cnt : Int) + 1) = (cnt : Int) + 1 := by rw [IntKind.wrap_i64]; omega
                      go_wp2
                      go_loopw [12] (fun s12 wv => ∃ (k : Nat) (x2 : List Bool), s12 = .int .i64 (k : Int) ∧ lo ≤ k ∧ k ≤ hi + 1 ∧ Hid (x2.length = 256) ∧ Hid (Blk wv b2 114 (tcl 0 Rx.noSet (.slice none 0 0)).toArray) ∧ Hid (Blk wv b5 114 (tcl 0 x2 (.slice none 0 0)).toArray) ∧ Hid (Below w.heap.size w wv)) (fun s12 _ => hi + 1 - (intOf s12).toNat)
                      case atStart => exact ⟨lo, x, rfl, Nat.le_refl _, by omega, HXL, B2, BT, KK⟩
                      case round =>
                        obtain ⟨k, x2, rfl, hk1, hk2, HX2, B2, BT, K2⟩ := hrel
                        by_cases hkh : k ≤ hi
                        · have hkI : (k : Int) ≤ (hi : Int) := by omega
                          have hk0 : (0 : Int) ≤ (k : Int) := by omega
                          have hk5 : (k : Int) < 256 := by omega
                          have hkd : decide ((k : Int) ≤ (hi : Int)) = true := by simp; omega
                          obtain ⟨vb, hvb⟩ : ∃ vb, x2[k]? = some vb := ⟨_, List.getElem?_eq_getElem (by rw [HX2.out]; omega)⟩
                          have z0 : wr.cell? ⟨b5, 1 + k, none⟩ = some (.bool vb) := (BT.out.cell (1 + k)).trans (by rw [List.getElem?_toArray]; exact tcl_get _ _ _ k vb hvb)
                          have z1 := BT.out.frozen (1 + k)
                          have B4 : Hid (Blk (wr.setCell ⟨b5, 1 + k, none⟩ (.bool true)) b5 114 (tcl 0 (x2.set k true) (.slice none 0 0)).toArray) := Lib.hid (by
                            have h := BT.out.set_ (1 + k) (.bool true)
                            rwa [List.setIfInBounds_toArray, tcl_set _ _ _ _ _ (by rw [HX2.out]; omega)] at h)
                          have B6 := Lib.hid (B2.out.far (p := ⟨b5, 1 + k, none⟩) HNE.out (.bool true))
                          have K4 := Lib.hid (K2.out.setCell (p := ⟨b5, 1 + k, none⟩) HB5.out (.bool true))
                          clear hvb
                          go_wp2
                          go_roundw
                          case rel => exact ⟨k + 1, x2.set k true, by go_num, by omega, by omega, Lib.hid (by rw [List.length_set]; exact HX2.out), B6, B4, K4⟩
                          case measure => (simp [intOf] <;> omega)
                        · have hkI : ¬ (k : Int) ≤ (hi : Int) := by omega
                          have hkd : decide ((k : Int) ≤ (hi : Int)) = false := by simp; omega
                          go_wp2
                          go_roundw
                          case rel => exact ⟨s2, cnt + 1, x2, rfl, by go_num, (by first | omega | (simp only [List.length_cons, List.length_nil]; omega)), HNX, HRB, HX2, B2, BT, K2⟩
                          case measure => (first | (simp only [strLen_bs, List.length_cons, List.length_nil]; omega) | (rw [hstl]; show (0 : Nat) < _; omega) | (rw [strLen_bs, hstl]; simp only [List.length_cons, List.length_nil]; omega))
              · have g1 : ((d : Int) == 45) = false := beq_eq_false_iff_ne.2 (by omega)
                have g2 : (d == 45) = false := beq_eq_false_iff_ne.2 h45
                have HNX : Hid (SetAt G (d :: e2 :: u2) (cnt + 1)) := Lib.hid (setAt_next (by have h := HSTP.out; rwa [if_neg (by simp [Rx.rng, h45])] at h))
                have HRB := HUB
                clear HSTP
                have hlo0 : (0 : Int) ≤ (lo : Int) := by omega
                have hwl : IntKind.i64.wrap (lo : Int) = (lo : Int) := by rw [IntKind.wrap_i64]; omega
                have hwh : IntKind.i64.wrap (lo : Int) = (lo : Int) := by rw [IntKind.wrap_i64]; omega
                have hwc : IntKind.i64.wrap ((cnt : Int) + 1) = (cnt : Int) + 1 := by rw [IntKind.wrap_i64]; omega
                go_wp2
                go_loopw [12] (fun s12 wv => ∃ (k : Nat) (x2 : List Bool), s12 = .int .i64 (k : Int) ∧ lo ≤ k ∧ k ≤ lo + 1 ∧ Hid (x2.length = 256) ∧ Hid (Blk wv b2 114 (tcl 0 Rx.noSet (.slice none 0 0)).toArray) ∧ Hid (Blk wv b5 114 (tcl 0 x2 (.slice none 0 0)).toArray) ∧ Hid (Below w.heap.size w wv)) (fun s12 _ => lo + 1 - (intOf s12).toNat)
                case atStart => exact ⟨lo, x, rfl, Nat.le_refl _, by omega, HXL, B2, BT, KK⟩
                case round =>
                  obtain ⟨k, x2, rfl, hk1, hk2, HX2, B2, BT, K2⟩ := hrel
                  by_cases hkh : k ≤ lo
                  · have hkI : (k : Int) ≤ (lo : Int) := by omega
                    have hk0 : (0 : Int) ≤ (k : Int) := by omega
                    have hk5 : (k : Int) < 256 := by omega
                    have hkd : decide ((k : Int) ≤ (lo : Int)) = true := by simp; omega
                    obtain ⟨vb, hvb⟩ : ∃ vb, x2[k]? = some vb := ⟨_, List.getElem?_eq_getElem (by rw [HX2.out]; omega)⟩
                    have z0 : wr.cell? ⟨b5, 1 + k, none⟩ = some (.bool vb) := (BT.out.cell (1 + k)).trans (by rw [List.getElem?_toArray]; exact tcl_get _ _ _ k vb hvb)
                    have z1 := BT.out.frozen (1 + k)
                    have B4 : Hid (Blk (wr.setCell ⟨b5, 1 + k, none⟩ (.bool true)) b5 114 (tcl 0 (x2.set k true) (.slice none 0 0)).toArray) := Lib.hid (by
                      have h := BT.out.set_ (1 + k) (.bool true)
                      rwa [List.setIfInBounds_toArray, tcl_set _ _ _ _ _ (by rw [HX2.out]; omega)] at h)
                    have B6 := Lib.hid (B2.out.far (p := ⟨b5, 1 + k, none⟩) HNE.out (.bool true))
                    have K4 := Lib.hid (K2.out.setCell (p := ⟨b5, 1 + k, none⟩) HB5.out (.bool true))
                    clear hvb
                    go_wp2
                    go_roundw
                    case rel => exact ⟨k + 1, x2.set k true, by go_num, by omega, by omega, Lib.hid (by rw [List.length_set]; exact HX2.out), B6, B4, K4⟩
                    case measure => (simp [intOf] <;> omega)
                  · have hkI : ¬ (k : Int) ≤ (lo : Int) := by omega
                    have hkd : decide ((k : Int) ≤ (lo : Int)) = false := by simp; omega
                    go_wp2
                    go_roundw
                    case rel => exact ⟨(d :: e2 :: u2), cnt + 1, x2, rfl, by go_num, (by first | omega | (simp only [List.length_cons, List.length_nil]; omega)), HNX, HRB, HX2, B2, BT, K2⟩
                    case measure => (first | (simp only [strLen_bs, List.length_cons, List.length_nil]; omega) | (rw [hstl]; show (0 : Nat) < _; omega) | (rw [strLen_bs, hstl]; simp only [List.length_cons, List.length_nil]; omega))

/-- The document's set. -/
theorem set_ref (s : List Nat) (w : World) (hb : ∀ x ∈ s, x < 256) (hs : s.length ≤ 1000) : Calls Try.prog 117 #[.string (bs s)] w (TreeEnd w (Rx.setB s)) := by
  have h := setAt_start s
  by_cases h1 : s.head? = some 94
  · rw [if_pos h1] at h
    refine set_not s s.tail _ w hb hs ?_ (Lib.hid h)
    cases s with
    | nil => cases h1
    | cons a t => rw [show a = 94 from Option.some.inj h1]; rfl
  · rw [if_neg h1] at h
    exact set_plain s s _ w hb hs rfl h1 (Lib.hid h)
end Go.Proofs.Ytnidjfmbbfoheaa
