/-
  No cell of these rows narrows 'for every input' (looked for: loops, veiled, ifaces, maps, wideKeys, modest, calm, conditions, laid).
  DERIVED. THE GIVEN ROWS OF THIS SEAT. 5 by the template 'for every input the law returns true; each argument reads behind the call as it read before'; 0 by the template 'total and deterministic' (their statements: YtadhcnfgbiokcaaTotals.lean).
  GIVEN WITH THE SEED: the statements are not yours to turn. If you find one false, say at which input.
  Laid BY PROGRAM, IN A SANDBOX (cutbox-rows.mjs): the forced cells as the released guide's own fill.sh prints them over the translation 020d8047f64801d7… (all of the seat's roots in one cut). By AI agents, Wed Nov 11 2026. No macro, syntax, notation, axiom, sorry.
-/
import Derived.Test.YtadhcnfgbiokcaaChecked
import GoSem.Claim
import GoSem.ClaimJoined
import GoSem.ClaimMapViews
import Derived.JoinedTies
import Derived.KernelRfl
namespace Go.Proofs.Ytadhcnfgbiokcaa
/- THE CELL 'sum', in the pinned program and in every row, IS THE sha256 OF THE DUMP (.gsa) THAT YtadhcnfgbiokcaaProg.lean LOADS. Nothing in Lean hashes anything: it is a label: what it is worth is what the hold of that sum in a sandbox is worth. -/
noncomputable def Try.pinned : Pinned := { name := "ytadhcnfgbiokcaa", sum := "020d8047f64801d73e516335802632c54f2249f6a334836aa73cdba0926a9bf6", checked := Try.checked }
namespace Rows
def none {H : Type} : Left H := { results := [], args := [] }

/-- 'watchfirelaw34.HealthEnough': WHATEVER THE INPUT: true; the input reads as it did. -/
def healthEnoughSpec : ChangeSpec := { name := "healthEnough", fn := fun _ => fun
  | [d1, d2] => { results := [.lit (.bool true)], args := [d1, d2] }
  | _ => none }
def healthEnoughRow : OpenClaim := { program := "ytadhcnfgbiokcaa", sum := "020d8047f64801d73e516335802632c54f2249f6a334836aa73cdba0926a9bf6", func := "watchfire/watchfirelaw34.HealthEnough", spec := "healthEnough", apart := false }
def HealthEnoughSaid : Prop := healthEnoughRow.holds Try.pinned (OpenSpec.ofChange healthEnoughSpec)

/-- ITS FALSE NEIGHBOUR: 'it returns false'. Refute it at one input. -/
def healthEnoughWrong : ChangeSpec := { name := "healthEnough", fn := fun _ => fun
  | [d1, d2] => { results := [.lit (.bool false)], args := [d1, d2] }
  | _ => none }
def HealthEnoughWrongFalsely : Prop := healthEnoughRow.holds Try.pinned (OpenSpec.ofChange healthEnoughWrong)

/-- 'watchfirelaw34.HealthSooner': WHATEVER THE INPUT: true; the input reads as it did. -/
def healthSoonerSpec : ChangeSpec := { name := "healthSooner", fn := fun _ => fun
  | [d1, d2, d3] => { results := [.lit (.bool true)], args := [d1, d2, d3] }
  | _ => none }
def healthSoonerRow : OpenClaim := { program := "ytadhcnfgbiokcaa", sum := "020d8047f64801d73e516335802632c54f2249f6a334836aa73cdba0926a9bf6", func := "watchfire/watchfirelaw34.HealthSooner", spec := "healthSooner", apart := false }
def HealthSoonerSaid : Prop := healthSoonerRow.holds Try.pinned (OpenSpec.ofChange healthSoonerSpec)

/-- ITS FALSE NEIGHBOUR: 'it returns false'. Refute it at one input. -/
def healthSoonerWrong : ChangeSpec := { name := "healthSooner", fn := fun _ => fun
  | [d1, d2, d3] => { results := [.lit (.bool false)], args := [d1, d2, d3] }
  | _ => none }
def HealthSoonerWrongFalsely : Prop := healthSoonerRow.holds Try.pinned (OpenSpec.ofChange healthSoonerWrong)

/-- 'watchfirelaw34.HealthClears': WHATEVER THE INPUT: true; the input reads as it did. -/
def healthClearsSpec : ChangeSpec := { name := "healthClears", fn := fun _ => fun
  | [d1, d2] => { results := [.lit (.bool true)], args := [d1, d2] }
  | _ => none }
def healthClearsRow : OpenClaim := { program := "ytadhcnfgbiokcaa", sum := "020d8047f64801d73e516335802632c54f2249f6a334836aa73cdba0926a9bf6", func := "watchfire/watchfirelaw34.HealthClears", spec := "healthClears", apart := false }
def HealthClearsSaid : Prop := healthClearsRow.holds Try.pinned (OpenSpec.ofChange healthClearsSpec)

/-- ITS FALSE NEIGHBOUR: 'it returns false'. Refute it at one input. -/
def healthClearsWrong : ChangeSpec := { name := "healthClears", fn := fun _ => fun
  | [d1, d2] => { results := [.lit (.bool false)], args := [d1, d2] }
  | _ => none }
def HealthClearsWrongFalsely : Prop := healthClearsRow.holds Try.pinned (OpenSpec.ofChange healthClearsWrong)

/-- 'watchfirelaw34.HealthPlays': WHATEVER THE INPUT: true; the input reads as it did. -/
def healthPlaysSpec : ChangeSpec := { name := "healthPlays", fn := fun _ => fun
  | [d1, d2, d3] => { results := [.lit (.bool true)], args := [d1, d2, d3] }
  | _ => none }
def healthPlaysRow : OpenClaim := { program := "ytadhcnfgbiokcaa", sum := "020d8047f64801d73e516335802632c54f2249f6a334836aa73cdba0926a9bf6", func := "watchfire/watchfirelaw34.HealthPlays", spec := "healthPlays", apart := false }
def HealthPlaysSaid : Prop := healthPlaysRow.holds Try.pinned (OpenSpec.ofChange healthPlaysSpec)

/-- ITS FALSE NEIGHBOUR: 'it returns false'. Refute it at one input. -/
def healthPlaysWrong : ChangeSpec := { name := "healthPlays", fn := fun _ => fun
  | [d1, d2, d3] => { results := [.lit (.bool false)], args := [d1, d2, d3] }
  | _ => none }
def HealthPlaysWrongFalsely : Prop := healthPlaysRow.holds Try.pinned (OpenSpec.ofChange healthPlaysWrong)

/-- 'watchfirelaw34.HealthForks': WHATEVER THE INPUT: true; the input reads as it did. -/
def healthForksSpec : ChangeSpec := { name := "healthForks", fn := fun _ => fun
  | [d1, d2, d3] => { results := [.lit (.bool true)], args := [d1, d2, d3] }
  | _ => none }
def healthForksRow : OpenClaim := { program := "ytadhcnfgbiokcaa", sum := "020d8047f64801d73e516335802632c54f2249f6a334836aa73cdba0926a9bf6", func := "watchfire/watchfirelaw34.HealthForks", spec := "healthForks", apart := false }
def HealthForksSaid : Prop := healthForksRow.holds Try.pinned (OpenSpec.ofChange healthForksSpec)

/-- ITS FALSE NEIGHBOUR: 'it returns false'. Refute it at one input. -/
def healthForksWrong : ChangeSpec := { name := "healthForks", fn := fun _ => fun
  | [d1, d2, d3] => { results := [.lit (.bool false)], args := [d1, d2, d3] }
  | _ => none }
def HealthForksWrongFalsely : Prop := healthForksRow.holds Try.pinned (OpenSpec.ofChange healthForksWrong)

/- THE SECOND FORM. 'bulk': how many values and letters a reading holds, each counted each time it is reached (what is shared counts as often as it is met; a slice's spare places count too). A statement '..UptoSaid' is the law's where the arguments, and the package variables that the reading takes, are together of bulk at most 1048576: NARROWER than '..Said'. Prove '..Said' where nothing that the law and all that it calls make is longer than what came in: it says more and counts as full. Else prove '..UptoSaid'. A law counts once. -/
mutual
def uptoBulk {H : Type} : DataW H → Nat
  | .lit (.string bytes) => bytes.length + 1
  | .lit _ => 1
  | .nil => 1
  | .ptr d => uptoBulk d + 1
  | .slice elems spare => uptoBulkAll elems + uptoBulkAll spare + 1
  | .agg parts => uptoBulkAll parts + 1
  | .iface _ d => uptoBulk d + 1
  | .map entries => uptoBulkEntries entries + 1
  | .held _ => 1
def uptoBulkAll {H : Type} : List (DataW H) → Nat
  | [] => 0
  | d :: r => uptoBulk d + uptoBulkAll r
def uptoBulkEntries {H : Type} : List (Lit × DataW H) → Nat
  | [] => 0
  | x :: r => uptoBulkEntry x + uptoBulkEntries r
def uptoBulkEntry {H : Type} : Lit × DataW H → Nat
  | (.string bytes, d) => bytes.length + uptoBulk d + 1
  | (_, d) => uptoBulk d + 1
 end
def uptoSmall : (H : Type) → List (DataW H) → Bool := fun _ ds => decide (uptoBulkAll ds ≤ 1048576)
def OpenSpec.upto (s : _root_.Go.ChangeSpec) : _root_.Go.OpenSpec := { _root_.Go.OpenSpec.ofChange s with cond := some uptoSmall }

/-- 'watchfirelaw34.HealthEnough', WHERE WHAT IT READS IS OF BULK AT MOST 1048576: true; the input reads as it did. -/
def healthEnoughUptoRow : OpenClaim := { program := "ytadhcnfgbiokcaa", sum := "020d8047f64801d73e516335802632c54f2249f6a334836aa73cdba0926a9bf6", func := "watchfire/watchfirelaw34.HealthEnough", spec := "healthEnough", apart := false, narrowed := true }
def HealthEnoughUptoSaid : Prop := healthEnoughUptoRow.holds Try.pinned (OpenSpec.upto healthEnoughSpec)

/-- 'watchfirelaw34.HealthSooner', WHERE WHAT IT READS IS OF BULK AT MOST 1048576: true; the input reads as it did. -/
def healthSoonerUptoRow : OpenClaim := { program := "ytadhcnfgbiokcaa", sum := "020d8047f64801d73e516335802632c54f2249f6a334836aa73cdba0926a9bf6", func := "watchfire/watchfirelaw34.HealthSooner", spec := "healthSooner", apart := false, narrowed := true }
def HealthSoonerUptoSaid : Prop := healthSoonerUptoRow.holds Try.pinned (OpenSpec.upto healthSoonerSpec)

/-- 'watchfirelaw34.HealthClears', WHERE WHAT IT READS IS OF BULK AT MOST 1048576: true; the input reads as it did. -/
def healthClearsUptoRow : OpenClaim := { program := "ytadhcnfgbiokcaa", sum := "020d8047f64801d73e516335802632c54f2249f6a334836aa73cdba0926a9bf6", func := "watchfire/watchfirelaw34.HealthClears", spec := "healthClears", apart := false, narrowed := true }
def HealthClearsUptoSaid : Prop := healthClearsUptoRow.holds Try.pinned (OpenSpec.upto healthClearsSpec)

/-- 'watchfirelaw34.HealthPlays', WHERE WHAT IT READS IS OF BULK AT MOST 1048576: true; the input reads as it did. -/
def healthPlaysUptoRow : OpenClaim := { program := "ytadhcnfgbiokcaa", sum := "020d8047f64801d73e516335802632c54f2249f6a334836aa73cdba0926a9bf6", func := "watchfire/watchfirelaw34.HealthPlays", spec := "healthPlays", apart := false, narrowed := true }
def HealthPlaysUptoSaid : Prop := healthPlaysUptoRow.holds Try.pinned (OpenSpec.upto healthPlaysSpec)

/-- 'watchfirelaw34.HealthForks', WHERE WHAT IT READS IS OF BULK AT MOST 1048576: true; the input reads as it did. -/
def healthForksUptoRow : OpenClaim := { program := "ytadhcnfgbiokcaa", sum := "020d8047f64801d73e516335802632c54f2249f6a334836aa73cdba0926a9bf6", func := "watchfire/watchfirelaw34.HealthForks", spec := "healthForks", apart := false, narrowed := true }
def HealthForksUptoSaid : Prop := healthForksUptoRow.holds Try.pinned (OpenSpec.upto healthForksSpec)

end Rows
end Go.Proofs.Ytadhcnfgbiokcaa
