/-
  NARROWER THAN 'FOR EVERY INPUT', by the rows' own cells (each row's printed sentence says how): CivilDays: laid · CivilDates: laid · CivilTimes: laid · CivilNext: laid · CivilCycles: laid · CivilTexts: laid · CivilBack: laid.
  DERIVED. THE GIVEN ROWS OF THIS SEAT. 7 by the template 'for every input the law returns true; each argument reads behind the call as it read before'; 0 by the template 'total and deterministic' (their statements: YtkmkeimofhpkeaaDoorTotals.lean).
  GIVEN WITH THE SEED: the statements are not yours to turn. If you find one false, say at which input.
  Laid BY PROGRAM, IN A SANDBOX (cutbox-rows.mjs): the forced cells as the released guide's own fill.sh prints them over the translation fff0af0b32629b3f… (all of the seat's roots in one cut). By AI agents, Wed Nov 11 2026. No macro, syntax, notation, axiom, sorry.
-/
import Derived.Test.YtkmkeimofhpkeaaDoorChecked
import GoSem.Claim
import GoSem.ClaimJoined
import GoSem.ClaimMapViews
import Derived.JoinedTies
import Derived.KernelRfl
namespace Go.Proofs.YtkmkeimofhpkeaaDoor
/- THE CELL 'sum', in the pinned program and in every row, IS THE sha256 OF THE DUMP (.gsa) THAT YtkmkeimofhpkeaaDoorProg.lean LOADS. Nothing in Lean hashes anything: it is a label: what it is worth is what the hold of that sum in a sandbox is worth. -/
noncomputable def Tryd.pinned : Pinned := { name := "ytkmkeimofhpkeaadoor", sum := "fff0af0b32629b3fa37c1afbee6663806d79cbe5b1ba6a0257cf0acea1950c1f", checked := Tryd.checked }
namespace Rows
def none {H : Type} : Left H := { results := [], args := [] }

/- WHAT THE LISTED PACKAGE-LEVEL VARIABLES READ AS WHEN THE CALL BEGINS. Each datum BY PROGRAM (the guide's laid-datum.mjs) off the statement by which the dump's own 'gosem.cut.vars' lays the variable. In a bare row this is a premise. The card (YtkmkeimofhpkeaaDoorCards.lean) ties it to the program's text. -/
def laid_watchfire_civil_ahead {H : Type} : DataW H := .agg [.lit (.int .i64 0), .lit (.int .i64 0), .lit (.int .i64 31), .lit (.int .i64 59), .lit (.int .i64 90), .lit (.int .i64 120), .lit (.int .i64 151), .lit (.int .i64 181), .lit (.int .i64 212), .lit (.int .i64 243), .lit (.int .i64 273), .lit (.int .i64 304), .lit (.int .i64 334), .lit (.int .i64 365)]

/-- 'watchfirelaw25.CivilDays': WHATEVER THE INPUT: true; the input reads as it did. -/
def civilDaysSpec : ChangeSpec := { name := "civilDays", fn := fun _ => fun
  | [d1, d2, d3] => { results := [.lit (.bool true)], args := [d1, d2, d3] }
  | _ => none }
def civilDaysRow : OpenClaim := { program := "ytkmkeimofhpkeaadoor", sum := "fff0af0b32629b3fa37c1afbee6663806d79cbe5b1ba6a0257cf0acea1950c1f", func := "watchfire/watchfirelaw25.CivilDays", spec := "civilDays", named := ["watchfire/civil.ahead"], apart := false, laid := [("watchfire/civil.ahead", laid_watchfire_civil_ahead)] }
def CivilDaysSaid : Prop := civilDaysRow.holds Tryd.pinned (OpenSpec.ofChange civilDaysSpec)

/-- ITS FALSE NEIGHBOUR: 'it returns false'. Refute it at one input. -/
def civilDaysWrong : ChangeSpec := { name := "civilDays", fn := fun _ => fun
  | [d1, d2, d3] => { results := [.lit (.bool false)], args := [d1, d2, d3] }
  | _ => none }
def CivilDaysWrongFalsely : Prop := civilDaysRow.holds Tryd.pinned (OpenSpec.ofChange civilDaysWrong)

/-- 'watchfirelaw25.CivilDates': WHATEVER THE INPUT: true; the input reads as it did. -/
def civilDatesSpec : ChangeSpec := { name := "civilDates", fn := fun _ => fun
  | [d] => { results := [.lit (.bool true)], args := [d] }
  | _ => none }
def civilDatesRow : OpenClaim := { program := "ytkmkeimofhpkeaadoor", sum := "fff0af0b32629b3fa37c1afbee6663806d79cbe5b1ba6a0257cf0acea1950c1f", func := "watchfire/watchfirelaw25.CivilDates", spec := "civilDates", named := ["watchfire/civil.ahead"], apart := false, laid := [("watchfire/civil.ahead", laid_watchfire_civil_ahead)] }
def CivilDatesSaid : Prop := civilDatesRow.holds Tryd.pinned (OpenSpec.ofChange civilDatesSpec)

/-- ITS FALSE NEIGHBOUR: 'it returns false'. Refute it at one input. -/
def civilDatesWrong : ChangeSpec := { name := "civilDates", fn := fun _ => fun
  | [d] => { results := [.lit (.bool false)], args := [d] }
  | _ => none }
def CivilDatesWrongFalsely : Prop := civilDatesRow.holds Tryd.pinned (OpenSpec.ofChange civilDatesWrong)

/-- 'watchfirelaw25.CivilTimes': WHATEVER THE INPUT: true; the input reads as it did. -/
def civilTimesSpec : ChangeSpec := { name := "civilTimes", fn := fun _ => fun
  | [d1, d2, d3] => { results := [.lit (.bool true)], args := [d1, d2, d3] }
  | _ => none }
def civilTimesRow : OpenClaim := { program := "ytkmkeimofhpkeaadoor", sum := "fff0af0b32629b3fa37c1afbee6663806d79cbe5b1ba6a0257cf0acea1950c1f", func := "watchfire/watchfirelaw25.CivilTimes", spec := "civilTimes", named := ["watchfire/civil.ahead"], apart := false, laid := [("watchfire/civil.ahead", laid_watchfire_civil_ahead)] }
def CivilTimesSaid : Prop := civilTimesRow.holds Tryd.pinned (OpenSpec.ofChange civilTimesSpec)

/-- ITS FALSE NEIGHBOUR: 'it returns false'. Refute it at one input. -/
def civilTimesWrong : ChangeSpec := { name := "civilTimes", fn := fun _ => fun
  | [d1, d2, d3] => { results := [.lit (.bool false)], args := [d1, d2, d3] }
  | _ => none }
def CivilTimesWrongFalsely : Prop := civilTimesRow.holds Tryd.pinned (OpenSpec.ofChange civilTimesWrong)

/-- 'watchfirelaw25.CivilNext': WHATEVER THE INPUT: true; the input reads as it did. -/
def civilNextSpec : ChangeSpec := { name := "civilNext", fn := fun _ => fun
  | [d1, d2, d3] => { results := [.lit (.bool true)], args := [d1, d2, d3] }
  | _ => none }
def civilNextRow : OpenClaim := { program := "ytkmkeimofhpkeaadoor", sum := "fff0af0b32629b3fa37c1afbee6663806d79cbe5b1ba6a0257cf0acea1950c1f", func := "watchfire/watchfirelaw25.CivilNext", spec := "civilNext", named := ["watchfire/civil.ahead"], apart := false, laid := [("watchfire/civil.ahead", laid_watchfire_civil_ahead)] }
def CivilNextSaid : Prop := civilNextRow.holds Tryd.pinned (OpenSpec.ofChange civilNextSpec)

/-- ITS FALSE NEIGHBOUR: 'it returns false'. Refute it at one input. -/
def civilNextWrong : ChangeSpec := { name := "civilNext", fn := fun _ => fun
  | [d1, d2, d3] => { results := [.lit (.bool false)], args := [d1, d2, d3] }
  | _ => none }
def CivilNextWrongFalsely : Prop := civilNextRow.holds Tryd.pinned (OpenSpec.ofChange civilNextWrong)

/-- 'watchfirelaw25.CivilCycles': WHATEVER THE INPUT: true; the input reads as it did. -/
def civilCyclesSpec : ChangeSpec := { name := "civilCycles", fn := fun _ => fun
  | [d1, d2, d3] => { results := [.lit (.bool true)], args := [d1, d2, d3] }
  | _ => none }
def civilCyclesRow : OpenClaim := { program := "ytkmkeimofhpkeaadoor", sum := "fff0af0b32629b3fa37c1afbee6663806d79cbe5b1ba6a0257cf0acea1950c1f", func := "watchfire/watchfirelaw25.CivilCycles", spec := "civilCycles", named := ["watchfire/civil.ahead"], apart := false, laid := [("watchfire/civil.ahead", laid_watchfire_civil_ahead)] }
def CivilCyclesSaid : Prop := civilCyclesRow.holds Tryd.pinned (OpenSpec.ofChange civilCyclesSpec)

/-- ITS FALSE NEIGHBOUR: 'it returns false'. Refute it at one input. -/
def civilCyclesWrong : ChangeSpec := { name := "civilCycles", fn := fun _ => fun
  | [d1, d2, d3] => { results := [.lit (.bool false)], args := [d1, d2, d3] }
  | _ => none }
def CivilCyclesWrongFalsely : Prop := civilCyclesRow.holds Tryd.pinned (OpenSpec.ofChange civilCyclesWrong)

/-- 'watchfirelaw25.CivilTexts': WHATEVER THE INPUT: true; the input reads as it did. -/
def civilTextsSpec : ChangeSpec := { name := "civilTexts", fn := fun _ => fun
  | [d1, d2] => { results := [.lit (.bool true)], args := [d1, d2] }
  | _ => none }
def civilTextsRow : OpenClaim := { program := "ytkmkeimofhpkeaadoor", sum := "fff0af0b32629b3fa37c1afbee6663806d79cbe5b1ba6a0257cf0acea1950c1f", func := "watchfire/watchfirelaw25.CivilTexts", spec := "civilTexts", named := ["watchfire/civil.ahead"], apart := false, laid := [("watchfire/civil.ahead", laid_watchfire_civil_ahead)] }
def CivilTextsSaid : Prop := civilTextsRow.holds Tryd.pinned (OpenSpec.ofChange civilTextsSpec)

/-- ITS FALSE NEIGHBOUR: 'it returns false'. Refute it at one input. -/
def civilTextsWrong : ChangeSpec := { name := "civilTexts", fn := fun _ => fun
  | [d1, d2] => { results := [.lit (.bool false)], args := [d1, d2] }
  | _ => none }
def CivilTextsWrongFalsely : Prop := civilTextsRow.holds Tryd.pinned (OpenSpec.ofChange civilTextsWrong)

/-- 'watchfirelaw25.CivilBack': WHATEVER THE INPUT: true; the input reads as it did. -/
def civilBackSpec : ChangeSpec := { name := "civilBack", fn := fun _ => fun
  | [d1, d2, d3] => { results := [.lit (.bool true)], args := [d1, d2, d3] }
  | _ => none }
def civilBackRow : OpenClaim := { program := "ytkmkeimofhpkeaadoor", sum := "fff0af0b32629b3fa37c1afbee6663806d79cbe5b1ba6a0257cf0acea1950c1f", func := "watchfire/watchfirelaw25.CivilBack", spec := "civilBack", named := ["watchfire/civil.ahead"], apart := false, laid := [("watchfire/civil.ahead", laid_watchfire_civil_ahead)] }
def CivilBackSaid : Prop := civilBackRow.holds Tryd.pinned (OpenSpec.ofChange civilBackSpec)

/-- ITS FALSE NEIGHBOUR: 'it returns false'. Refute it at one input. -/
def civilBackWrong : ChangeSpec := { name := "civilBack", fn := fun _ => fun
  | [d1, d2, d3] => { results := [.lit (.bool false)], args := [d1, d2, d3] }
  | _ => none }
def CivilBackWrongFalsely : Prop := civilBackRow.holds Tryd.pinned (OpenSpec.ofChange civilBackWrong)

/- THE SECOND FORM. 'bulk': how many values and letters a reading holds, each counted each time it is reached (what is shared counts as often as it is met; a slice's spare places count too). A statement '..UptoSaid' is the law's where the arguments, and the package variables that the reading takes, are together of bulk at most 1048576: NARROWER than '..Said'. Prove '..Said' where nothing that the law and all that it calls make is longer than what came in: it says more and counts as full. Else prove '..UptoSaid'. A law counts once. -/
mutual
def uptoBulk {H : Type} : DataW H → Nat
  | .lit (.string bytes) => bytes.length + 1
  | .lit _ => 1
  | .nil => 1
  | .ptr d => uptoBulk d + 1
  | .slice elems spare => uptoBulkAll elems + uptoBulkAll spare + 1
  | .agg parts => uptoBulkAll parts + 1
  | .iface _ d => uptoBulk d + 1
  | .map entries => uptoBulkEntries entries + 1
  | .held _ => 1
def uptoBulkAll {H : Type} : List (DataW H) → Nat
  | [] => 0
  | d :: r => uptoBulk d + uptoBulkAll r
def uptoBulkEntries {H : Type} : List (Lit × DataW H) → Nat
  | [] => 0
  | x :: r => uptoBulkEntry x + uptoBulkEntries r
def uptoBulkEntry {H : Type} : Lit × DataW H → Nat
  | (.string bytes, d) => bytes.length + uptoBulk d + 1
  | (_, d) => uptoBulk d + 1
 end
def uptoSmall : (H : Type) → List (DataW H) → Bool := fun _ ds => decide (uptoBulkAll ds ≤ 1048576)
def OpenSpec.upto (s : _root_.Go.ChangeSpec) : _root_.Go.OpenSpec := { _root_.Go.OpenSpec.ofChange s with cond := some uptoSmall }

/-- 'watchfirelaw25.CivilDays', WHERE WHAT IT READS IS OF BULK AT MOST 1048576: true; the input reads as it did. -/
def civilDaysUptoRow : OpenClaim := { program := "ytkmkeimofhpkeaadoor", sum := "fff0af0b32629b3fa37c1afbee6663806d79cbe5b1ba6a0257cf0acea1950c1f", func := "watchfire/watchfirelaw25.CivilDays", spec := "civilDays", named := ["watchfire/civil.ahead"], apart := false, laid := [("watchfire/civil.ahead", laid_watchfire_civil_ahead)], narrowed := true }
def CivilDaysUptoSaid : Prop := civilDaysUptoRow.holds Tryd.pinned (OpenSpec.upto civilDaysSpec)

/-- 'watchfirelaw25.CivilDates', WHERE WHAT IT READS IS OF BULK AT MOST 1048576: true; the input reads as it did. -/
def civilDatesUptoRow : OpenClaim := { program := "ytkmkeimofhpkeaadoor", sum := "fff0af0b32629b3fa37c1afbee6663806d79cbe5b1ba6a0257cf0acea1950c1f", func := "watchfire/watchfirelaw25.CivilDates", spec := "civilDates", named := ["watchfire/civil.ahead"], apart := false, laid := [("watchfire/civil.ahead", laid_watchfire_civil_ahead)], narrowed := true }
def CivilDatesUptoSaid : Prop := civilDatesUptoRow.holds Tryd.pinned (OpenSpec.upto civilDatesSpec)

/-- 'watchfirelaw25.CivilTimes', WHERE WHAT IT READS IS OF BULK AT MOST 1048576: true; the input reads as it did. -/
def civilTimesUptoRow : OpenClaim := { program := "ytkmkeimofhpkeaadoor", sum := "fff0af0b32629b3fa37c1afbee6663806d79cbe5b1ba6a0257cf0acea1950c1f", func := "watchfire/watchfirelaw25.CivilTimes", spec := "civilTimes", named := ["watchfire/civil.ahead"], apart := false, laid := [("watchfire/civil.ahead", laid_watchfire_civil_ahead)], narrowed := true }
def CivilTimesUptoSaid : Prop := civilTimesUptoRow.holds Tryd.pinned (OpenSpec.upto civilTimesSpec)

/-- 'watchfirelaw25.CivilNext', WHERE WHAT IT READS IS OF BULK AT MOST 1048576: true; the input reads as it did. -/
def civilNextUptoRow : OpenClaim := { program := "ytkmkeimofhpkeaadoor", sum := "fff0af0b32629b3fa37c1afbee6663806d79cbe5b1ba6a0257cf0acea1950c1f", func := "watchfire/watchfirelaw25.CivilNext", spec := "civilNext", named := ["watchfire/civil.ahead"], apart := false, laid := [("watchfire/civil.ahead", laid_watchfire_civil_ahead)], narrowed := true }
def CivilNextUptoSaid : Prop := civilNextUptoRow.holds Tryd.pinned (OpenSpec.upto civilNextSpec)

/-- 'watchfirelaw25.CivilCycles', WHERE WHAT IT READS IS OF BULK AT MOST 1048576: true; the input reads as it did. -/
def civilCyclesUptoRow : OpenClaim := { program := "ytkmkeimofhpkeaadoor", sum := "fff0af0b32629b3fa37c1afbee6663806d79cbe5b1ba6a0257cf0acea1950c1f", func := "watchfire/watchfirelaw25.CivilCycles", spec := "civilCycles", named := ["watchfire/civil.ahead"], apart := false, laid := [("watchfire/civil.ahead", laid_watchfire_civil_ahead)], narrowed := true }
def CivilCyclesUptoSaid : Prop := civilCyclesUptoRow.holds Tryd.pinned (OpenSpec.upto civilCyclesSpec)

/-- 'watchfirelaw25.CivilTexts', WHERE WHAT IT READS IS OF BULK AT MOST 1048576: true; the input reads as it did. -/
def civilTextsUptoRow : OpenClaim := { program := "ytkmkeimofhpkeaadoor", sum := "fff0af0b32629b3fa37c1afbee6663806d79cbe5b1ba6a0257cf0acea1950c1f", func := "watchfire/watchfirelaw25.CivilTexts", spec := "civilTexts", named := ["watchfire/civil.ahead"], apart := false, laid := [("watchfire/civil.ahead", laid_watchfire_civil_ahead)], narrowed := true }
def CivilTextsUptoSaid : Prop := civilTextsUptoRow.holds Tryd.pinned (OpenSpec.upto civilTextsSpec)

/-- 'watchfirelaw25.CivilBack', WHERE WHAT IT READS IS OF BULK AT MOST 1048576: true; the input reads as it did. -/
def civilBackUptoRow : OpenClaim := { program := "ytkmkeimofhpkeaadoor", sum := "fff0af0b32629b3fa37c1afbee6663806d79cbe5b1ba6a0257cf0acea1950c1f", func := "watchfire/watchfirelaw25.CivilBack", spec := "civilBack", named := ["watchfire/civil.ahead"], apart := false, laid := [("watchfire/civil.ahead", laid_watchfire_civil_ahead)], narrowed := true }
def CivilBackUptoSaid : Prop := civilBackUptoRow.holds Tryd.pinned (OpenSpec.upto civilBackSpec)

end Rows
end Go.Proofs.YtkmkeimofhpkeaaDoor
