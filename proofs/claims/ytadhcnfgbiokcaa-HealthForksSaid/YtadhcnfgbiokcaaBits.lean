/- WALK: math/bits.OnesCount64; one more bit is one more. -/
import Derived.Test.YtadhcnfgbiokcaaCw
import Derived.Test.YtadhcnfgbiokcaaChecked
import Derived.Test.YtadhcnfgbiokcaaPop
import Derived.Laws.BitsLemmas
namespace Go.Proofs.Ytadhcnfgbiokcaa
set_option linter.unusedVariables false
set_option linter.unusedSimpArgs false
open Go.RowKit

theorem wraps_u64 (n : Int) (h0 : 0 ≤ n) (h1 : n < 2 ^ 64) : IntKind.u64.wrap n = n := by rw [IntKind.wrap_u64]; omega
theorem wraps_i64 (n : Int) (h0 : 0 ≤ n) (h1 : n < 2 ^ 63) : IntKind.i64.wrap n = n := by rw [IntKind.wrap_i64]; omega
theorem and64 (a b : Nat) (ha : a < 18446744073709551616) (hb : b < 18446744073709551616) : bits .and .u64 (a : Int) (b : Int) = ((a &&& b : Nat) : Int) := (bits_nat .u64 64 (by decide) wraps_u64 a b (by omega) (by omega)).1
theorem or64 (a b : Nat) (ha : a < 18446744073709551616) (hb : b < 18446744073709551616) : bits .or .u64 (a : Int) (b : Int) = ((a ||| b : Nat) : Int) := (bits_nat .u64 64 (by decide) wraps_u64 a b (by omega) (by omega)).2
theorem wrap64n (n : Nat) (h : n < 18446744073709551616) : IntKind.u64.wrap (n : Int) = (n : Int) := wraps_u64 _ (by omega) (by omega)

theorem pop_eq (x : Nat) : He.pop x = (let y := He.s3 (He.s2 (He.s1 x)); let y1 := y + y / 256; let y2 := y1 + y1 / 65536; (y2 + y2 / 4294967296) % 128) := rfl

set_option maxHeartbeats 1000000 in
theorem ones_any (x : Nat) (w : World) (hx : x < 18446744073709551616) : Calls Try.prog 24 #[.int .u64 (x : Int)] w fun e w' => e = .returned (.int .i64 (He.ones x : Nat)) ∧ Below w.heap.size w w' := by
  have hp := He.pop_ones x hx
  rw [pop_eq] at hp
  have m1 : He.M1 < 18446744073709551616 := by decide
  have m2 : He.M2 < 18446744073709551616 := by decide
  have m4 : He.M4 < 1152921504606846976 := by decide
  -- the fields of two
  have a1 : bits .and .u64 ((x : Int) / 2) 6148914691236517205 = ((x / 2 &&& He.M1 : Nat) : Int) := by
    rw [show ((x : Int) / 2) = ((x / 2 : Nat) : Int) by omega]; exact and64 _ He.M1 (by omega) m1
  have a2 : bits .and .u64 (x : Int) 6148914691236517205 = ((x &&& He.M1 : Nat) : Int) := and64 _ He.M1 hx m1
  have n1 : (x / 2 &&& He.M1) ≤ He.M1 := Nat.and_le_right
  have n2 : (x &&& He.M1) ≤ He.M1 := Nat.and_le_right
  have hs1 : He.s1 x = (x / 2 &&& He.M1) + (x &&& He.M1) := rfl
  generalize (x / 2 &&& He.M1) = p1 at *
  generalize (x &&& He.M1) = p2 at *
  obtain ⟨y, hy⟩ : ∃ y, He.s1 x = y := ⟨_, rfl⟩
  rw [hy] at hs1 hp
  have hM1 : He.M1 = 6148914691236517205 := rfl
  have hM2 : He.M2 = 3689348814741910323 := rfl
  have hM4 : He.M4 = 1085102592571150095 := rfl
  have w1 : IntKind.u64.wrap ((p1 : Int) + (p2 : Int)) = (y : Int) := by rw [show (p1 : Int) + (p2 : Int) = (y : Int) by omega]; exact wrap64n _ (by omega)
  have yb : y < 18446744073709551616 := by omega
  -- the fields of four
  have a3 : bits .and .u64 ((y : Int) / 4) 3689348814741910323 = ((y / 4 &&& He.M2 : Nat) : Int) := by
    rw [show ((y : Int) / 4) = ((y / 4 : Nat) : Int) by omega]; exact and64 _ He.M2 (by omega) m2
  have a4 : bits .and .u64 (y : Int) 3689348814741910323 = ((y &&& He.M2 : Nat) : Int) := and64 _ He.M2 yb m2
  have n3 : (y / 4 &&& He.M2) ≤ He.M2 := Nat.and_le_right
  have n4 : (y &&& He.M2) ≤ He.M2 := Nat.and_le_right
  have hs2 : He.s2 y = (y / 4 &&& He.M2) + (y &&& He.M2) := rfl
  generalize (y / 4 &&& He.M2) = p3 at *
  generalize (y &&& He.M2) = p4 at *
  obtain ⟨z, hz⟩ : ∃ z, He.s2 y = z := ⟨_, rfl⟩
  rw [hz] at hs2 hp
  have w2 : IntKind.u64.wrap ((p3 : Int) + (p4 : Int)) = (z : Int) := by rw [show (p3 : Int) + (p4 : Int) = (z : Int) by omega]; exact wrap64n _ (by omega)
  have zb : z ≤ 7378697629483820646 := by omega
  -- the bytes
  have w3 : IntKind.u64.wrap ((z : Int) / 16 + (z : Int)) = ((z / 16 + z : Nat) : Int) := by rw [show (z : Int) / 16 + (z : Int) = ((z / 16 + z : Nat) : Int) by omega]; exact wrap64n _ (by omega)
  have a5 : bits .and .u64 ((z / 16 + z : Nat) : Int) 1085102592571150095 = (((z / 16 + z) &&& He.M4 : Nat) : Int) := and64 _ He.M4 (by omega) (by omega)
  have n5 : ((z / 16 + z) &&& He.M4) ≤ He.M4 := Nat.and_le_right
  have hs3 : He.s3 z = ((z / 16 + z) &&& He.M4) := rfl
  generalize ((z / 16 + z) &&& He.M4) = u at *
  obtain ⟨v, hv⟩ : ∃ v, z / 16 + z = v := ⟨_, rfl⟩
  rw [hv] at w3 a5
  rw [hs3] at hp
  have ub : u ≤ 1085102592571150095 := by omega
  -- the sum
  obtain ⟨u1, hu1⟩ : ∃ u1, u + u / 256 = u1 := ⟨_, rfl⟩
  obtain ⟨u2, hu2⟩ : ∃ u2, u1 + u1 / 65536 = u2 := ⟨_, rfl⟩
  obtain ⟨u3, hu3⟩ : ∃ u3, u2 + u2 / 4294967296 = u3 := ⟨_, rfl⟩
  simp only [hu1, hu2, hu3] at hp
  have w4 : IntKind.u64.wrap ((u : Int) + (u : Int) / 256) = (u1 : Int) := by rw [show (u : Int) + (u : Int) / 256 = (u1 : Int) by omega]; exact wrap64n _ (by omega)
  have w5 : IntKind.u64.wrap ((u1 : Int) + (u1 : Int) / 65536) = (u2 : Int) := by rw [show (u1 : Int) + (u1 : Int) / 65536 = (u2 : Int) by omega]; exact wrap64n _ (by omega)
  have w6 : IntKind.u64.wrap ((u2 : Int) + (u2 : Int) / 4294967296) = (u3 : Int) := by rw [show (u2 : Int) + (u2 : Int) / 4294967296 = (u3 : Int) by omega]; exact wrap64n _ (by omega)
  have u3b : u3 < 9223372036854775808 := by omega
  have a6 : bits .and .i64 (u3 : Int) 127 = ((He.ones x : Nat) : Int) := by
    have h := (bits_nat .i64 63 (by decide) wraps_i64 u3 127 (by omega) (by omega)).1
    rw [← hp]
    rw [show u3 % 128 = u3 &&& 127 from (Nat.and_two_pow_sub_one_eq_mod u3 7).symm]
    exact h
  clear hp hy hz hs1 hs2 hs3 hv hu1 hu2 hu3 n1 n2 n3 n4 n5 m1 m2 m4 hM1 hM2 hM4
  go_enter Try.func24, Try.ntmps24
  go_wp2
  go_ret
  exact ⟨rfl, Below.refl _ _⟩

end Go.Proofs.Ytadhcnfgbiokcaa
