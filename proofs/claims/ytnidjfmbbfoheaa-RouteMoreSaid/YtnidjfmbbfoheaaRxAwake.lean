/- WALKS: awake of regex. -/
import Derived.Test.YtnidjfmbbfoheaaRxQ1
namespace Go.Proofs.Ytnidjfmbbfoheaa
set_option linter.unusedVariables false
set_option linter.unusedSimpArgs false
open Go.RowKit

theorem like1 (w : World) : Calls Try.prog 26 #[.string ⟨#[91, 97, 45, 99, 93, 43, 92, 46, 91, 94, 120, 93]⟩, .string ⟨#[99, 97, 98, 46, 121]⟩] w fun e w' => e = .returned (.tuple #[.bool true, .int .i64 0]) ∧ Below w.heap.size w w' := by
  have h := like_any [91, 97, 45, 99, 93, 43, 92, 46, 91, 94, 120, 93] [99, 97, 98, 46, 121] (by decide) (by decide) (by decide) (by decide) w
  have e : likeVal [91, 97, 45, 99, 93, 43, 92, 46, 91, 94, 120, 93] [99, 97, 98, 46, 121] = .tuple #[.bool true, .int .i64 0] := by
    have : Rx.like [91, 97, 45, 99, 93, 43, 92, 46, 91, 94, 120, 93] [99, 97, 98, 46, 121] = some true := by decide +kernel
    unfold likeVal
    rw [if_neg (by decide), this]
  rw [e] at h
  exact h
theorem like2 (w : World) : Calls Try.prog 26 #[.string ⟨#[97]⟩, .string ⟨#[97, 98]⟩] w fun e w' => e = .returned (.tuple #[.bool false, .int .i64 0]) ∧ Below w.heap.size w w' := by
  have h := like_any [97] [97, 98] (by decide) (by decide) (by decide) (by decide) w
  have e : likeVal [97] [97, 98] = .tuple #[.bool false, .int .i64 0] := by
    have : Rx.like [97] [97, 98] = some false := by decide +kernel
    unfold likeVal
    rw [if_neg (by decide), this]
  rw [e] at h
  exact h
theorem like3 (w : World) : Calls Try.prog 26 #[.string ⟨#[42, 97]⟩, .string ⟨#[97]⟩] w fun e w' => e = .returned (.tuple #[.bool false, .int .i64 9]) ∧ Below w.heap.size w w' := by
  have h := like_any [42, 97] [97] (by decide) (by decide) (by decide) (by decide) w
  have e : likeVal [42, 97] [97] = .tuple #[.bool false, .int .i64 9] := by
    have : Rx.like [42, 97] [97] = none := by decide +kernel
    unfold likeVal
    rw [if_neg (by decide), this]
  rw [e] at h
  exact h
theorem quote1 (w : World) : Calls Try.prog 23 #[.string ⟨#[97, 46, 98]⟩] w fun e w' => e = .returned (.string ⟨#[97, 92, 46, 98]⟩) ∧ Below w.heap.size w w' :=
  quote_any [97, 46, 98] (by decide) (by decide) w
set_option maxRecDepth 100000 in
set_option maxHeartbeats 2000000 in
theorem awake_any (w : World) : Calls Try.prog 25 #[] w fun e w' => e = .returned (.bool true) ∧ Below w.heap.size w w' := by
  go_enter Try.func25, Try.ntmps25
  go_wp2_with fail
  refine (like1 _).mono ?_
  rintro e w1 ⟨rfl, hk1⟩
  have K1 := Lib.hid hk1
  clear hk1
  go_wp2_with fail
  refine (like2 _).mono ?_
  rintro e w2 ⟨rfl, hk2⟩
  have K2 := Lib.hid (below_then K1.out K1.out.size hk2)
  clear hk2
  go_wp2_with fail
  refine (like3 _).mono ?_
  rintro e w3 ⟨rfl, hk3⟩
  have K3 := Lib.hid (below_then K2.out K2.out.size hk3)
  clear hk3
  go_wp2_with fail
  refine (quote1 _).mono ?_
  rintro e w4 ⟨rfl, hk4⟩
  have K4 := Lib.hid (below_then K3.out K3.out.size hk4)
  clear hk4
  go_wp2
  go_ret
  exact ⟨rfl, K4.out⟩
end Go.Proofs.Ytnidjfmbbfoheaa
