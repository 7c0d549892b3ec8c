/- strings.IndexByte: what the library's contract asks of this program. -/
import Derived.Shelf.Small.Strs
import Derived.KernelRfl
import Derived.Test.YtnidjfmbbfoheaaProg
import Derived.Test.YtnidjfmbbfoheaaRxD
namespace Go.Proofs.Ytnidjfmbbfoheaa
set_option linter.unusedVariables false
set_option linter.unusedSimpArgs false
open Go.Shelf Go.RowKit Go.Lib
def ren57 : Go.Shelf.Ren := ⟨fun x => if x = 137 then 57 else if x = 217 then 95 else if x = 266 then 109 else x, fun x => x, fun x => x⟩
theorem lay57 : Lays.n137 Try.prog ren57 := {
  mixed := by kernel_rfl
  f137 := Try.func57.trans (by kernel_rfl)
  f217 := Try.func95.trans (by kernel_rfl)
  f266 := Try.func109.trans (by kernel_rfl)
  t3 := by kernel_rfl
  a3 := fun _ => by kernel_rfl
  z3 := fun _ => by kernel_rfl
  v3 := fun _ => by kernel_rfl
  t5 := by kernel_rfl
  a5 := fun _ => by kernel_rfl
  z5 := fun _ => by kernel_rfl
  v5 := fun _ => by kernel_rfl
  t9 := by kernel_rfl
  a9 := fun _ => by kernel_rfl
  z9 := fun _ => by kernel_rfl
  v9 := fun _ => by kernel_rfl }
/-- Where a byte is among the special ones. -/
def spAt (c : Nat) : Int := Lib.indexByte [40, 41, 91, 93, 124, 42, 43, 63, 46, 92] (UInt8.ofNat c)
theorem sp_all : (List.range 256).all (fun c => decide (c ∈ Rx.special) == decide (0 ≤ spAt c)) = true := by decide +kernel
theorem sp_iff {c : Nat} (h : c < 256) : decide (c ∈ Rx.special) = decide (0 ≤ spAt c) := by
  have := List.all_eq_true.1 sp_all c (List.mem_range.2 h)
  simpa using this
theorem indexSp (c : Nat) (hc : c < 256) (w : World) : Calls Try.prog 57 #[.string ⟨#[40, 41, 91, 93, 124, 42, 43, 63, 46, 92]⟩, .int .u8 (c : Int)] w fun e w' => e = .returned (.int .i64 (spAt c)) ∧ w' = w := by
  have h := Any.strings_IndexByte lay57 ⟨#[40, 41, 91, 93, 124, 42, 43, 63, 46, 92]⟩ (c : Int) w
  change Calls Try.prog 57 _ _ _ at h
  exact h
end Go.Proofs.Ytnidjfmbbfoheaa
