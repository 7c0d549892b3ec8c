/- PLAIN LAW: one bit of a number: 'and', 'or' with it; the ones behind it. -/
import Derived.Test.YtadhcnfgbiokcaaHeWords
namespace Go.Proofs.Ytadhcnfgbiokcaa
set_option linter.unusedVariables false
set_option linter.unusedSimpArgs false

theorem and_bit (x k : Nat) : x &&& 2 ^ k = if x / 2 ^ k % 2 = 1 then 2 ^ k else 0 := by
  apply Nat.eq_of_testBit_eq
  intro j
  rw [Nat.testBit_and, Nat.testBit_two_pow]
  by_cases e : k = j
  · subst e
    rw [Nat.testBit_eq_decide_div_mod_eq]
    by_cases h : x / 2 ^ k % 2 = 1 <;> simp [h]
  · split <;> simp [e]
theorem or_bit (x k : Nat) (h : x / 2 ^ k % 2 = 0) : x ||| 2 ^ k = x + 2 ^ k := by
  have hp : 0 < 2 ^ k := Nat.pow_pos (by omega)
  obtain ⟨a, ha⟩ : ∃ a, x / 2 ^ k = 2 * a := ⟨x / 2 ^ k / 2, by omega⟩
  have hb : x % 2 ^ k < 2 ^ k := Nat.mod_lt _ hp
  have hx : x = 2 ^ (k + 1) * a + x % 2 ^ k := by
    have := Nat.div_add_mod x (2 ^ k)
    rw [ha] at this
    rw [Nat.pow_succ]
    rw [← Nat.mul_assoc] at this
    exact this.symm
  generalize x % 2 ^ k = b at *
  have hb1 : b < 2 ^ (k + 1) := by rw [Nat.pow_succ]; omega
  have hb2 : b + 2 ^ k < 2 ^ (k + 1) := by rw [Nat.pow_succ]; omega
  subst hx
  apply Nat.eq_of_testBit_eq
  intro j
  rw [Nat.testBit_or, Nat.add_assoc, Nat.testBit_two_pow_mul_add _ hb1, Nat.testBit_two_pow_mul_add _ hb2, Nat.testBit_two_pow]
  by_cases hj : j < k + 1
  · rw [if_pos hj, if_pos hj, Nat.add_comm b]
    by_cases e : j = k
    · subst e
      rw [Nat.testBit_two_pow_add_eq, Nat.testBit_lt_two_pow hb]
      simp
    · rw [Nat.testBit_two_pow_add_gt (by omega)]
      simp [show ¬ k = j by omega]
  · rw [if_neg hj, if_neg hj]
    simp [show ¬ k = j by omega]
theorem ones_more {x k : Nat} (hx : x < 18446744073709551616) (hk : k < 64) (h : x / 2 ^ k % 2 = 0) : He.ones (x + 2 ^ k) = He.ones x + 1 ∧ x + 2 ^ k < 18446744073709551616 := by
  have hlt : x + 2 ^ k < 18446744073709551616 := by
    rw [← or_bit x k h]
    exact Nat.or_lt_two_pow (n := 64) hx (Nat.pow_lt_pow_right (by omega) hk)
  exact ⟨by rw [ones_cnt _ hlt, ones_cnt _ hx, cnt_more 64 k x hk h], hlt⟩
theorem ones_one {k : Nat} (hk : k < 64) : He.ones (2 ^ k) = 1 := by
  have := (ones_more (x := 0) (by omega) hk (by simp)).1
  rw [Nat.zero_add] at this
  rw [this]
  decide

end Go.Proofs.Ytadhcnfgbiokcaa
