/- WORDS: the condition that the table is laid, opened; the witness's world. -/
import Derived.Test.YtkmkeimofhpkeaaDoorCl
import Derived.Test.YtkmkeimofhpkeaaDoorAwake
import Derived.LaidMore
import Derived.Stop.Joined
import Derived.Lib.LaidTab
namespace Go.Proofs.YtkmkeimofhpkeaaDoor
set_option linter.unusedVariables false
set_option linter.unusedSimpArgs false
open Go.ChangeShapes Go.WideShapes Go.ChangeAt Go.RowKit Go.Joins Go.Deep

theorem tOwn : ownKnob Tryd.prog.godebug = none := by kernel_rfl
theorem tLaid : laidOutB Tryd.prog = true := by kernel_rfl
theorem gA : Tryd.prog.globalNamed "watchfire/civil.ahead" = some 0 := by kernel_rfl
theorem gT : (Tryd.prog.globals[0]?).map (·.type) = some 51 := by kernel_rfl
abbrev laidA : List (String × DataW Unit) := [("watchfire/civil.ahead", Rows.laid_watchfire_civil_ahead)]

theorem door_met (os : Os) (args : Array Value) : laidMetH Tryd.prog laidA ((World.doorLaid Tryd.prog 400 os).forCall (fun _ _ => 0) ⟨#[], args, []⟩).memory :=
  laidMetH_of_parts3 (fuel := 8) (laidMet_of_run' 8 (by kernel_rfl) (by kernel_rfl)) (by kernel_rfl) (by kernel_rfl)

theorem ah_of_laid {W : World} (h : laidMetH Tryd.prog laidA W) : AH W := by
  rw [MakeChecks.laidMetH_plain _ _ _ (by kernel_rfl)] at h
  have hT := Lib.tabIs_of_head (k := .i64) (zs := [0, 0, 31, 59, 90, 120, 151, 181, 212, 243, 273, 304, 334, 365]) gA gT Tryd.underlying51 Tryd.underlying3 (by kernel_rfl) (by kernel_rfl) h
  have h0 := hT.cell gA 0 (by decide)
  exact ⟨World.block_lt_of_cell? W _ h0, fun k hk => hT.cell gA k hk⟩

end Go.Proofs.YtkmkeimofhpkeaaDoor
