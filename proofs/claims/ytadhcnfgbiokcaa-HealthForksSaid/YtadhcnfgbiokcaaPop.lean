/- PLAIN LAW: the ones of a 64-bit number, counted by fields (as Go's library does): how many bits are set; one more by a new bit. -/
import Derived.KernelRfl
namespace Go.Proofs.Ytadhcnfgbiokcaa.He
set_option linter.unusedVariables false
set_option linter.unusedSimpArgs false

def M1 : Nat := 6148914691236517205
def M2 : Nat := 3689348814741910323
def M4 : Nat := 1085102592571150095
def s1 (x : Nat) : Nat := (x / 2 &&& M1) + (x &&& M1)
def s2 (x : Nat) : Nat := (x / 4 &&& M2) + (x &&& M2)
def s3 (x : Nat) : Nat := (x / 16 + x) &&& M4
def pop (x : Nat) : Nat :=
  let y := s3 (s2 (s1 x))
  let y1 := y + y / 256
  let y2 := y1 + y1 / 65536
  (y2 + y2 / 4294967296) % 128

theorem and_split (x b m k : Nat) (hb : b < 256) (hk : k < 256) : (256 * x + b) &&& (256 * m + k) = 256 * (x &&& m) + (b &&& k) := by
  have hbk : b &&& k < 256 := Nat.and_lt_two_pow b (show k < 2 ^ 8 by omega)
  apply Nat.eq_of_testBit_eq
  intro i
  rw [Nat.testBit_and, show 256 = 2 ^ 8 by decide, Nat.testBit_two_pow_mul_add _ hb, Nat.testBit_two_pow_mul_add _ hk, Nat.testBit_two_pow_mul_add _ hbk]
  split <;> rw [Nat.testBit_and]

def t1 (b : Nat) : Nat := (b / 2 &&& 85) + (b &&& 85)
def t2 (b : Nat) : Nat := (b / 4 &&& 51) + (b &&& 51)
def t3 (b : Nat) : Nat := (b / 16 + b) &&& 15

theorem k1 : ∀ c, c < 2 → ∀ b, b < 256 → (128 * c + b / 2) &&& 85 = b / 2 &&& 85 := by decide +kernel
theorem k2 : ∀ c, c < 4 → ∀ b, b < 256 → (64 * c + b / 4) &&& 51 = b / 4 &&& 51 := by decide +kernel
theorem k3 : ∀ c, c < 5 → ∀ b, b < 128 → (16 * c + b / 16 + b) &&& 15 = (b / 16 + b) &&& 15 := by decide +kernel
theorem t1_lt : ∀ b, b < 256 → t1 b < 256 := by decide +kernel
theorem t2_lt : ∀ b, b < 256 → t2 (t1 b) < 128 ∧ t2 (t1 b) % 16 < 5 ∧ t2 (t1 b) / 16 < 5 := by decide +kernel

theorem step1 (x b m : Nat) (hb : b < 256) : ((256 * x + b) / 2 &&& (256 * m + 85)) + ((256 * x + b) &&& (256 * m + 85)) = 256 * ((x / 2 &&& m) + (x &&& m)) + t1 b := by
  have e : (256 * x + b) / 2 = 256 * (x / 2) + (128 * (x % 2) + b / 2) := by omega
  rw [e, and_split _ _ _ _ (by omega) (by omega), and_split _ _ _ _ hb (by omega), k1 _ (by omega) _ hb]
  unfold t1
  omega
theorem step2 (x b m : Nat) (hb : b < 256) : ((256 * x + b) / 4 &&& (256 * m + 51)) + ((256 * x + b) &&& (256 * m + 51)) = 256 * ((x / 4 &&& m) + (x &&& m)) + t2 b := by
  have e : (256 * x + b) / 4 = 256 * (x / 4) + (64 * (x % 4) + b / 4) := by omega
  rw [e, and_split _ _ _ _ (by omega) (by omega), and_split _ _ _ _ hb (by omega), k2 _ (by omega) _ hb]
  unfold t2
  omega
theorem step3 (x b m : Nat) (hb : b < 128) (hb2 : b / 16 < 5) (hb3 : b % 16 < 5) (hx : x % 16 < 5) : ((256 * x + b) / 16 + (256 * x + b)) &&& (256 * m + 15) = 256 * ((x / 16 + x) &&& m) + t3 b := by
  have e : (256 * x + b) / 16 + (256 * x + b) = 256 * (x / 16 + x) + (16 * (x % 16) + b / 16 + b) := by omega
  rw [e, and_split _ _ _ _ (by omega) (by omega), k3 _ hx _ hb]
  rfl

set_option linter.unusedSectionVars false
/-- A number of eight bytes. -/
def by8 (b0 b1 b2 b3 b4 b5 b6 b7 : Nat) : Nat := 256 * (256 * (256 * (256 * (256 * (256 * (256 * b7 + b6) + b5) + b4) + b3) + b2) + b1) + b0
theorem m1_form : M1 = by8 85 85 85 85 85 85 85 85 := by decide
theorem m2_form : M2 = by8 51 51 51 51 51 51 51 51 := by decide
theorem m4_form : M4 = by8 15 15 15 15 15 15 15 15 := by decide
section
variable {b0 b1 b2 b3 b4 b5 b6 b7 : Nat} (h0 : b0 < 256) (h1 : b1 < 256) (h2 : b2 < 256) (h3 : b3 < 256) (h4 : b4 < 256) (h5 : b5 < 256) (h6 : b6 < 256) (h7 : b7 < 256)
include h0 h1 h2 h3 h4 h5 h6 h7
theorem s1_by8 : s1 (by8 b0 b1 b2 b3 b4 b5 b6 b7) = by8 (t1 b0) (t1 b1) (t1 b2) (t1 b3) (t1 b4) (t1 b5) (t1 b6) (t1 b7) := by
  unfold s1
  rw [m1_form]
  unfold by8
  rw [step1 _ _ _ h0, step1 _ _ _ h1, step1 _ _ _ h2, step1 _ _ _ h3, step1 _ _ _ h4, step1 _ _ _ h5, step1 _ _ _ h6]
  rfl
theorem s2_by8 : s2 (by8 b0 b1 b2 b3 b4 b5 b6 b7) = by8 (t2 b0) (t2 b1) (t2 b2) (t2 b3) (t2 b4) (t2 b5) (t2 b6) (t2 b7) := by
  unfold s2
  rw [m2_form]
  unfold by8
  rw [step2 _ _ _ h0, step2 _ _ _ h1, step2 _ _ _ h2, step2 _ _ _ h3, step2 _ _ _ h4, step2 _ _ _ h5, step2 _ _ _ h6]
  rfl
theorem s3_by8 : s3 (by8 (t2 (t1 b0)) (t2 (t1 b1)) (t2 (t1 b2)) (t2 (t1 b3)) (t2 (t1 b4)) (t2 (t1 b5)) (t2 (t1 b6)) (t2 (t1 b7))) = by8 (t3 (t2 (t1 b0))) (t3 (t2 (t1 b1))) (t3 (t2 (t1 b2))) (t3 (t2 (t1 b3))) (t3 (t2 (t1 b4))) (t3 (t2 (t1 b5))) (t3 (t2 (t1 b6))) (t3 (t2 (t1 b7))) := by
  obtain ⟨a0, c0, e0⟩ := t2_lt _ h0
  obtain ⟨a1, c1, e1⟩ := t2_lt _ h1
  obtain ⟨a2, c2, e2⟩ := t2_lt _ h2
  obtain ⟨a3, c3, e3⟩ := t2_lt _ h3
  obtain ⟨a4, c4, e4⟩ := t2_lt _ h4
  obtain ⟨a5, c5, e5⟩ := t2_lt _ h5
  obtain ⟨a6, c6, e6⟩ := t2_lt _ h6
  obtain ⟨a7, c7, e7⟩ := t2_lt _ h7
  unfold s3
  rw [m4_form]
  unfold by8
  rw [step3 _ _ _ a0 e0 c0 (by omega), step3 _ _ _ a1 e1 c1 (by omega), step3 _ _ _ a2 e2 c2 (by omega), step3 _ _ _ a3 e3 c3 (by omega), step3 _ _ _ a4 e4 c4 (by omega), step3 _ _ _ a5 e5 c5 (by omega), step3 _ _ _ a6 e6 c6 (by omega)]
  rfl
end

/-- The ones of a byte. -/
def ones8 (b : Nat) : Nat := b % 2 + b / 2 % 2 + b / 4 % 2 + b / 8 % 2 + b / 16 % 2 + b / 32 % 2 + b / 64 % 2 + b / 128 % 2
theorem pop8 : ∀ b, b < 256 → t3 (t2 (t1 b)) = ones8 b := by decide +kernel
theorem ones8_le (b : Nat) : ones8 b ≤ 8 := by unfold ones8; omega

theorem sum_a {c0 r : Nat} (h : c0 < 256) : (256 * r + c0) / 256 = r := by omega
theorem sum_b {c0 c1 r : Nat} (h0 : c0 < 256) (h1 : c1 < 256) : (256 * (256 * r + c1) + c0) / 65536 = r := by omega
theorem sum_c {c0 c1 c2 c3 r : Nat} (h0 : c0 < 256) (h1 : c1 < 256) (h2 : c2 < 256) (h3 : c3 < 256) : (256 * (256 * (256 * (256 * r + c3) + c2) + c1) + c0) / 4294967296 = r := by omega
theorem sum_y {c0 c1 c2 c3 c4 c5 c6 c7 : Nat} : by8 c0 c1 c2 c3 c4 c5 c6 c7 + (256 * (256 * (256 * (256 * (256 * (256 * c7 + c6) + c5) + c4) + c3) + c2) + c1) = by8 (c0 + c1) (c1 + c2) (c2 + c3) (c3 + c4) (c4 + c5) (c5 + c6) (c6 + c7) c7 := by unfold by8; omega
theorem sum_z {c0 c1 c2 c3 c4 c5 c6 c7 : Nat} : by8 c0 c1 c2 c3 c4 c5 c6 c7 + (256 * (256 * (256 * (256 * (256 * c7 + c6) + c5) + c4) + c3) + c2) = by8 (c0 + c2) (c1 + c3) (c2 + c4) (c3 + c5) (c4 + c6) (c5 + c7) c6 c7 := by unfold by8; omega
theorem sum_u {c0 c1 c2 c3 c4 c5 c6 c7 : Nat} (h : c0 + c4 < 128) : (by8 c0 c1 c2 c3 c4 c5 c6 c7 + (256 * (256 * (256 * c7 + c6) + c5) + c4)) % 128 = c0 + c4 := by unfold by8; omega
theorem sums {c0 c1 c2 c3 c4 c5 c6 c7 : Nat} (h0 : c0 ≤ 8) (h1 : c1 ≤ 8) (h2 : c2 ≤ 8) (h3 : c3 ≤ 8) (h4 : c4 ≤ 8) (h5 : c5 ≤ 8) (h6 : c6 ≤ 8) (h7 : c7 ≤ 8) :
    (let y := by8 c0 c1 c2 c3 c4 c5 c6 c7
     let y1 := y + y / 256
     let y2 := y1 + y1 / 65536
     (y2 + y2 / 4294967296) % 128) = c0 + c1 + c2 + c3 + c4 + c5 + c6 + c7 := by
  dsimp only
  have e1 : by8 c0 c1 c2 c3 c4 c5 c6 c7 / 256 = 256 * (256 * (256 * (256 * (256 * (256 * c7 + c6) + c5) + c4) + c3) + c2) + c1 := sum_a (by omega)
  rw [e1, sum_y]
  have e2 : by8 (c0 + c1) (c1 + c2) (c2 + c3) (c3 + c4) (c4 + c5) (c5 + c6) (c6 + c7) c7 / 65536 = 256 * (256 * (256 * (256 * (256 * c7 + (c6 + c7)) + (c5 + c6)) + (c4 + c5)) + (c3 + c4)) + (c2 + c3) := sum_b (by omega) (by omega)
  rw [e2, sum_z]
  have e3 : by8 (c0 + c1 + (c2 + c3)) (c1 + c2 + (c3 + c4)) (c2 + c3 + (c4 + c5)) (c3 + c4 + (c5 + c6)) (c4 + c5 + (c6 + c7)) (c5 + c6 + c7) (c6 + c7) c7 / 4294967296 = 256 * (256 * (256 * c7 + (c6 + c7)) + (c5 + c6 + c7)) + (c4 + c5 + (c6 + c7)) := sum_c (by omega) (by omega) (by omega) (by omega)
  rw [e3, sum_u (by omega)]
  omega

/-- The ones of a 64-bit number, byte by byte. -/
def ones (x : Nat) : Nat := ones8 (x % 256) + ones8 (x / 256 % 256) + ones8 (x / 65536 % 256) + ones8 (x / 16777216 % 256) + ones8 (x / 4294967296 % 256) + ones8 (x / 1099511627776 % 256) + ones8 (x / 281474976710656 % 256) + ones8 (x / 72057594037927936)
theorem pop_ones (x : Nat) (hx : x < 18446744073709551616) : pop x = ones x := by
  have hf : x = by8 (x % 256) (x / 256 % 256) (x / 65536 % 256) (x / 16777216 % 256) (x / 4294967296 % 256) (x / 1099511627776 % 256) (x / 281474976710656 % 256) (x / 72057594037927936) := by unfold by8; omega
  unfold ones
  have h0 : x % 256 < 256 := by omega
  have h1 : x / 256 % 256 < 256 := by omega
  have h2 : x / 65536 % 256 < 256 := by omega
  have h3 : x / 16777216 % 256 < 256 := by omega
  have h4 : x / 4294967296 % 256 < 256 := by omega
  have h5 : x / 1099511627776 % 256 < 256 := by omega
  have h6 : x / 281474976710656 % 256 < 256 := by omega
  have h7 : x / 72057594037927936 < 256 := by omega
  generalize x % 256 = b0 at *
  generalize x / 256 % 256 = b1 at *
  generalize x / 65536 % 256 = b2 at *
  generalize x / 16777216 % 256 = b3 at *
  generalize x / 4294967296 % 256 = b4 at *
  generalize x / 1099511627776 % 256 = b5 at *
  generalize x / 281474976710656 % 256 = b6 at *
  generalize x / 72057594037927936 = b7 at *
  subst hf
  unfold pop
  rw [s1_by8 h0 h1 h2 h3 h4 h5 h6 h7, s2_by8 (t1_lt _ h0) (t1_lt _ h1) (t1_lt _ h2) (t1_lt _ h3) (t1_lt _ h4) (t1_lt _ h5) (t1_lt _ h6) (t1_lt _ h7), s3_by8 h0 h1 h2 h3 h4 h5 h6 h7,
    pop8 _ h0, pop8 _ h1, pop8 _ h2, pop8 _ h3, pop8 _ h4, pop8 _ h5, pop8 _ h6, pop8 _ h7]
  exact sums (ones8_le _) (ones8_le _) (ones8_le _) (ones8_le _) (ones8_le _) (ones8_le _) (ones8_le _) (ones8_le _)

end Go.Proofs.Ytadhcnfgbiokcaa.He
