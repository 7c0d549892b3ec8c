/- slices.DeleteFunc, slices.IndexFunc at uint16: what the library's contract asks of this program. -/
import Derived.Shelf.SlicesE.DeleteFunc
import Derived.KernelRfl
import Derived.Test.YtnlpgjdgiappcaaProg
namespace Go.Proofs.Ytnlpgjdgiappcaa
open Go.Shelf Go.RowKit Go.Lib Go.Sort
def ren64 : Go.Shelf.Ren := ⟨fun x => if x = 6 then 70 else if x = 10 then 64 else x, fun x => if x = 22 then 41 else if x = 23 then 22 else if x = 25 then 129 else x, fun x => x⟩
theorem lay64 : SlLaysH.n10 Try.prog ren64 := {
  mixed := by kernel_rfl
  f6 := ⟨Try.f70.name, by decide, Try.func70.trans (by kernel_rfl)⟩
  f10 := ⟨Try.f64.name, by decide, Try.func64.trans (by kernel_rfl)⟩
  t0 := by kernel_rfl
  a0 := fun _ => by kernel_rfl
  z0 := fun _ => by kernel_rfl
  v0 := fun _ => by kernel_rfl
  t3 := by kernel_rfl
  a3 := fun _ => by kernel_rfl
  z3 := fun _ => by kernel_rfl
  v3 := fun _ => by kernel_rfl
  t4 := by kernel_rfl
  a4 := fun _ => by kernel_rfl
  z4 := fun _ => by kernel_rfl
  v4 := fun _ => by kernel_rfl
  t22 := by kernel_rfl
  a22 := fun _ => by kernel_rfl
  z22 := fun _ => by kernel_rfl
  v22 := fun _ => by kernel_rfl
  a23 := fun _ => by kernel_rfl
  z23 := fun _ => by kernel_rfl
  t25 := by kernel_rfl
  a25 := fun _ => by kernel_rfl
  z25 := fun _ => by kernel_rfl
  v25 := fun _ => by kernel_rfl }
end Go.Proofs.Ytnlpgjdgiappcaa
