/- WALKS: health's Len. -/
import Derived.Test.YtadhcnfgbiokcaaHeArr
namespace Go.Proofs.Ytadhcnfgbiokcaa
set_option linter.unusedVariables false
set_option linter.unusedSimpArgs false
open Go.RowKit
/-- How many suspicions are among the first n. -/
def lenS (s : Nat → Option Su) : Nat → Nat
  | 0 => 0
  | n + 1 => lenS s n + (if (s n).isSome then 1 else 0)
theorem lenS_le (s : Nat → Option Su) (n : Nat) : lenS s n ≤ n := by
  induction n with
  | zero => exact Nat.le_refl _
  | succ n ih => unfold lenS; split <;> omega
set_option maxRecDepth 100000 in
set_option maxHeartbeats 1000000 in
theorem len_any (g : Nat) (h : Hs) (w : World) (H : IsH w g h) :
    Calls Try.prog 16 #[.pointer (some ⟨g, 0, none⟩)] w fun e w' => e = .returned (.int .i64 (lenS h.s 64 : Nat)) ∧ Below w.heap.size w w' := by
  have hlt := H.lt
  have HH := Lib.hid H
  clear H
  go_enter Try.func16, Try.ntmps16
  go_wp2_with fail
  refine wp_load_mid 67 _ rfl g 5 rfl (susCells h) _ HH.out.row und67 rfl (by rw [siz67, susCells_length]) ?_
  have HI := Lib.hid (fun j h0 h1 w => index67_su h j h0 h1 w)
  generalize (susCells h).toArray = A at *
  go_wp2
  go_loopw [3, 12] (fun v i wr => ∃ k : Nat, k ≤ 64 ∧ i = .int .i64 k ∧ v = .int .i64 (lenS h.s k : Nat) ∧ Below w.heap.size w wr) (fun _ i _ => 64 - (intOf i).toNat)
  case atStart => exact ⟨0, Nat.zero_le _, rfl, rfl, Below.refl _ _⟩
  case round =>
    obtain ⟨k, hk, rfl, rfl, hb⟩ := hrel
    have hle := lenS_le h.s k
    have hb0 := hb.size
    have HB := Lib.hid hb
    clear hb
    by_cases hlt : k < 64
    · have hltI : (k : Int) < 64 := by omega
      have hk0 : (0 : Int) ≤ (k : Int) := by omega
      have hl1 : lenS h.s (k + 1) = lenS h.s k + (if (h.s k).isSome then 1 else 0) := rfl
      have i0 := fun w => HI.out (k : Int) (by omega) (by omega) w
      rw [Int.toNat_natCast] at i0
      obtain ⟨L1, hL1⟩ : ∃ x, lenS h.s (k + 1) = x := ⟨_, rfl⟩
      rw [hL1] at hl1
      have HL := Lib.hid hL1
      clear hL1
      generalize lenS h.s k = L at *
      cases hx : h.s k with
      | none =>
        rw [hx] at i0 hl1
        simp only [su, Option.isSome_none, Bool.false_eq_true, if_false, Nat.add_zero] at i0 hl1
        go_wp2
        go_roundw
        case rel => exact ⟨k + 1, by omega, by go_num, by rw [HL.out, hl1], HB.out.alloc hb0 _⟩
        case measure => simp [intOf]; omega
      | some x =>
        rw [hx] at i0 hl1
        simp only [su, Option.isSome_some, if_true] at i0 hl1
        go_wp2
        go_roundw
        case rel => exact ⟨k + 1, by omega, by go_num, by rw [HL.out, hl1]; go_num, HB.out.alloc hb0 _⟩
        case measure => simp [intOf]; omega
    · obtain rfl : k = 64 := by omega
      go_wp2
      go_ret
      exact ⟨rfl, HB.out⟩
end Go.Proofs.Ytadhcnfgbiokcaa
