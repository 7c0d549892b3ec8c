/- PLAIN LAW: civil and the document read any text alike; what is told is read again. -/
import Derived.Test.YtkmkeimofhpkeaaDoorRread
namespace Go.Proofs.YtkmkeimofhpkeaaDoor
set_option linter.unusedVariables false
set_option linter.unusedSimpArgs false

theorem text_list (Y M D T S : Nat) : textS Y M D T S = [dg Y 3, dg Y 2, dg Y 1, dg Y 0, 45, dg M 1, dg M 0, 45, dg D 1, dg D 0, 84, dg (T / 60) 1, dg (T / 60) 0, 58, dg (T % 60) 1, dg (T % 60) 0, 58, dg S 1, dg S 0] := rfl
theorem list19 {α : Type} {s : List α} (h : s.length = 19) : ∃ a0 a1 a2 a3 a4 a5 a6 a7 a8 a9 a10 a11 a12 a13 a14 a15 a16 a17 a18, s = [a0, a1, a2, a3, a4, a5, a6, a7, a8, a9, a10, a11, a12, a13, a14, a15, a16, a17, a18] := by
  match s, h with
  | [a0, a1, a2, a3, a4, a5, a6, a7, a8, a9, a10, a11, a12, a13, a14, a15, a16, a17, a18], _ => exact ⟨a0, a1, a2, a3, a4, a5, a6, a7, a8, a9, a10, a11, a12, a13, a14, a15, a16, a17, a18, rfl⟩
theorem u8_eq (a b : UInt8) : a = b ↔ a.toNat = b.toNat := UInt8.toNat_inj.symm

set_option maxHeartbeats 2000000 in
theorem text_iff {s : List UInt8} (h : s.length = 19) (Y M D T S : Nat) : textS Y M D T S = s ↔
    (48 + ((Y / 1000 % 10 : Nat) : Int) = sb s 0 ∧ 48 + ((Y / 100 % 10 : Nat) : Int) = sb s 1 ∧ 48 + ((Y / 10 % 10 : Nat) : Int) = sb s 2 ∧ 48 + ((Y % 10 : Nat) : Int) = sb s 3 ∧ sb s 4 = 45 ∧
     48 + ((M / 10 % 10 : Nat) : Int) = sb s 5 ∧ 48 + ((M % 10 : Nat) : Int) = sb s 6 ∧ sb s 7 = 45 ∧ 48 + ((D / 10 % 10 : Nat) : Int) = sb s 8 ∧ 48 + ((D % 10 : Nat) : Int) = sb s 9 ∧ sb s 10 = 84 ∧
     48 + ((T / 60 / 10 % 10 : Nat) : Int) = sb s 11 ∧ 48 + ((T / 60 % 10 : Nat) : Int) = sb s 12 ∧ sb s 13 = 58 ∧ 48 + ((T % 60 / 10 % 10 : Nat) : Int) = sb s 14 ∧ 48 + ((T % 60 % 10 : Nat) : Int) = sb s 15 ∧ sb s 16 = 58 ∧
     48 + ((S / 10 % 10 : Nat) : Int) = sb s 17 ∧ 48 + ((S % 10 : Nat) : Int) = sb s 18) := by
  obtain ⟨a0, a1, a2, a3, a4, a5, a6, a7, a8, a9, a10, a11, a12, a13, a14, a15, a16, a17, a18, rfl⟩ := list19 h
  rw [text_list]
  simp only [List.cons.injEq, u8_eq, dg_nat, sb, List.getD_cons_zero, List.getD_cons_succ, and_true]
  simp only [show (10 : Nat) ^ 3 = 1000 by decide, show (10 : Nat) ^ 2 = 100 by decide, show (10 : Nat) ^ 1 = 10 by decide, show (10 : Nat) ^ 0 = 1 by decide, Nat.div_one, show (45 : UInt8).toNat = 45 by decide, show (84 : UInt8).toNat = 84 by decide, show (58 : UInt8).toNat = 58 by decide]
  constructor
  · rintro ⟨h0, h1, h2, h3, h4, h5, h6, h7, h8, h9, h10, h11, h12, h13, h14, h15, h16, h17, h18⟩
    refine ⟨?_, ?_, ?_, ?_, ?_, ?_, ?_, ?_, ?_, ?_, ?_, ?_, ?_, ?_, ?_, ?_, ?_, ?_, ?_⟩ <;> omega
  · rintro ⟨h0, h1, h2, h3, h4, h5, h6, h7, h8, h9, h10, h11, h12, h13, h14, h15, h16, h17, h18⟩
    refine ⟨?_, ?_, ?_, ?_, ?_, ?_, ?_, ?_, ?_, ?_, ?_, ?_, ?_, ?_, ?_, ?_, ?_, ?_, ?_⟩ <;> omega

def allD (s : List UInt8) : Prop := isD s 0 ∧ isD s 1 ∧ isD s 2 ∧ isD s 3 ∧ isD s 5 ∧ isD s 6 ∧ isD s 8 ∧ isD s 9 ∧ isD s 11 ∧ isD s 12 ∧ isD s 14 ∧ isD s 15 ∧ isD s 17 ∧ isD s 18
def seps (s : List UInt8) : Prop := sb s 4 = 45 ∧ sb s 7 = 45 ∧ sb s 10 = 84 ∧ sb s 13 = 58 ∧ sb s 16 = 58
theorem ok_iff (s : List UInt8) : (∀ j, j < 19 → okAt s j) ↔ allD s ∧ seps s := by
  constructor
  · intro h
    have f := fun j hj => h j hj
    exact ⟨⟨f 0 (by decide), f 1 (by decide), f 2 (by decide), f 3 (by decide), f 5 (by decide), f 6 (by decide), f 8 (by decide), f 9 (by decide), f 11 (by decide), f 12 (by decide), f 14 (by decide), f 15 (by decide), f 17 (by decide), f 18 (by decide)⟩,
      f 4 (by decide), f 7 (by decide), f 10 (by decide), f 13 (by decide), f 16 (by decide)⟩
  · rintro ⟨⟨h0, h1, h2, h3, h5, h6, h8, h9, h11, h12, h14, h15, h17, h18⟩, h4, h7, h10, h13, h16⟩ j hj
    rcases lt19 hj with rfl | rfl | rfl | rfl | rfl | rfl | rfl | rfl | rfl | rfl | rfl | rfl | rfl | rfl | rfl | rfl | rfl | rfl | rfl <;> assumption

theorem NN_vals (s : List UInt8) : NN s 19 0 = 10 * (10 * (10 * (10 * 0 + (sb s 0 - 48)) + (sb s 1 - 48)) + (sb s 2 - 48)) + (sb s 3 - 48) ∧ NN s 19 1 = 10 * (10 * 0 + (sb s 5 - 48)) + (sb s 6 - 48) ∧ NN s 19 2 = 10 * (10 * 0 + (sb s 8 - 48)) + (sb s 9 - 48) ∧
    NN s 19 3 = 10 * (10 * 0 + (sb s 11 - 48)) + (sb s 12 - 48) ∧ NN s 19 4 = 10 * (10 * 0 + (sb s 14 - 48)) + (sb s 15 - 48) ∧ NN s 19 5 = 10 * (10 * 0 + (sb s 17 - 48)) + (sb s 18 - 48) := ⟨rfl, rfl, rfl, rfl, rfl, rfl⟩
theorem numR2 {s : List UInt8} {a : Nat} (h0 : isD s a) (h1 : isD s (a + 1)) : numR s a 2 = 10 * (10 * 0 + (sb s a - 48)) + (sb s (a + 1) - 48) := by
  unfold numR
  rw [if_pos (fun j hj => by rcases (by omega : j = 0 ∨ j = 1) with rfl | rfl <;> assumption)]
  rfl
theorem numR4 {s : List UInt8} (h0 : isD s 0) (h1 : isD s 1) (h2 : isD s 2) (h3 : isD s 3) : numR s 0 4 = 10 * (10 * (10 * (10 * 0 + (sb s 0 - 48)) + (sb s 1 - 48)) + (sb s 2 - 48)) + (sb s 3 - 48) := by
  unfold numR
  rw [if_pos (fun j hj => by rcases (by omega : j = 0 ∨ j = 1 ∨ j = 2 ∨ j = 3) with rfl | rfl | rfl | rfl <;> assumption)]
  rfl
theorem nums_eq {s : List UInt8} (h : allD s) : numR s 0 4 = NN s 19 0 ∧ numR s 5 2 = NN s 19 1 ∧ numR s 8 2 = NN s 19 2 ∧ numR s 11 2 = NN s 19 3 ∧ numR s 14 2 = NN s 19 4 ∧ numR s 17 2 = NN s 19 5 := by
  obtain ⟨h0, h1, h2, h3, h5, h6, h8, h9, h11, h12, h14, h15, h17, h18⟩ := h
  exact ⟨numR4 h0 h1 h2 h3, numR2 h5 h6, numR2 h8 h9, numR2 h11 h12, numR2 h14 h15, numR2 h17 h18⟩

set_option maxHeartbeats 2000000 in
theorem ok_same (s : List UInt8) : readOk s ↔ rOk s := by
  by_cases h19 : s.length = 19
  · obtain ⟨N0, N1, N2, N3, N4, N5⟩ := NN_vals s
    constructor
    · rintro ⟨-, hok, h60, hsec⟩
      obtain ⟨hd, hs⟩ := (ok_iff s).1 hok
      obtain ⟨e0, e1, e2, e3, e4, e5⟩ := nums_eq hd
      refine ⟨h19, by rw [e0, e1, e2, e3, e4, e5]; exact hsec, ?_⟩
      rw [e0, e1, e2, e3, e4, e5, text_iff h19]
      obtain ⟨h0, h1, h2, h3, h5, h6, h8, h9, h11, h12, h14, h15, h17, h18⟩ := hd
      unfold isD at h0 h1 h2 h3 h5 h6 h8 h9 h11 h12 h14 h15 h17 h18
      obtain ⟨h4, h7, h10, h13, h16⟩ := hs
      rw [N4] at h60
      rw [N0, N1, N2, N3, N4, N5]
      clear N0 N1 N2 N3 N4 N5 e0 e1 e2 e3 e4 e5 hsec hok
      refine ⟨?_, ?_, ?_, ?_, h4, ?_, ?_, h7, ?_, ?_, h10, ?_, ?_, h13, ?_, ?_, h16, ?_, ?_⟩ <;> omega
    · rintro ⟨-, hsec, ht⟩
      rw [text_iff h19] at ht
      obtain ⟨t0, t1, t2, t3, h4, t5, t6, h7, t8, t9, h10, t11, t12, h13, t14, t15, h16, t17, t18⟩ := ht
      have hd : allD s := by
        refine ⟨⟨?_, ?_⟩, ⟨?_, ?_⟩, ⟨?_, ?_⟩, ⟨?_, ?_⟩, ⟨?_, ?_⟩, ⟨?_, ?_⟩, ⟨?_, ?_⟩, ⟨?_, ?_⟩, ⟨?_, ?_⟩, ⟨?_, ?_⟩, ⟨?_, ?_⟩, ⟨?_, ?_⟩, ⟨?_, ?_⟩, ⟨?_, ?_⟩⟩ <;> omega
      obtain ⟨e0, e1, e2, e3, e4, e5⟩ := nums_eq hd
      rw [e0, e1, e2, e3, e4, e5] at hsec
      refine ⟨h19, (ok_iff s).2 ⟨hd, h4, h7, h10, h13, h16⟩, ?_, hsec⟩
      rw [N4]
      clear e0 e1 e2 e3 e5 hsec N0 N1 N2 N3 N5
      generalize (60 * numR s 11 2 + numR s 14 2).toNat = T at *
      omega
  · exact ⟨fun h => (h19 h.1).elim, fun h => (h19 h.1).elim⟩
theorem read_same (s : List UInt8) : readVal s = rreadVal s := by
  by_cases h : readOk s
  · have h' := (ok_same s).1 h
    obtain ⟨e0, e1, e2, e3, e4, e5⟩ := nums_eq ((ok_iff s).1 h.2.1).1
    unfold readVal rreadVal
    rw [if_pos h, if_pos h', e0, e1, e2, e3, e4, e5]
  · have h' : ¬ rOk s := fun e => h ((ok_same s).2 e)
    unfold readVal rreadVal
    rw [if_neg h, if_neg h']

end Go.Proofs.YtkmkeimofhpkeaaDoor
