/-
  No cell of these rows narrows 'for every input' (looked for: loops, veiled, ifaces, maps, wideKeys, modest, calm, conditions, laid).
  DERIVED. THE GIVEN ROWS OF THIS SEAT. 12 by the template 'for every input the law returns true; each argument reads behind the call as it read before'; 0 by the template 'total and deterministic' (their statements: YtnlpgjdgiappcaaTotals.lean).
  GIVEN WITH THE SEED: the statements are not yours to turn. If you find one false, say at which input.
  Laid BY PROGRAM, IN A SANDBOX (cutbox-rows.mjs): the forced cells as the released guide's own fill.sh prints them over the translation 1ad254b16709f868… (all of the seat's roots in one cut). By AI agents, Wed Nov 11 2026. No macro, syntax, notation, axiom, sorry.
-/
import Derived.Test.YtnlpgjdgiappcaaChecked
import GoSem.Claim
import GoSem.ClaimJoined
import GoSem.ClaimMapViews
import Derived.JoinedTies
import Derived.KernelRfl
namespace Go.Proofs.Ytnlpgjdgiappcaa
/- THE CELL 'sum', in the pinned program and in every row, IS THE sha256 OF THE DUMP (.gsa) THAT YtnlpgjdgiappcaaProg.lean LOADS. Nothing in Lean hashes anything: it is a label: what it is worth is what the hold of that sum in a sandbox is worth. -/
noncomputable def Try.pinned : Pinned := { name := "ytnlpgjdgiappcaa", sum := "1ad254b16709f868bf23144854bd6d1c47b6455a75f408c4a021c0d1b9c93437", checked := Try.checked }
namespace Rows
def none {H : Type} : Left H := { results := [], args := [] }

/-- 'watchfirelaw15.MemberRefutes': WHATEVER THE INPUT: true; the input reads as it did. -/
def memberRefutesSpec : ChangeSpec := { name := "memberRefutes", fn := fun _ => fun
  | [d1, d2, d3] => { results := [.lit (.bool true)], args := [d1, d2, d3] }
  | _ => none }
def memberRefutesRow : OpenClaim := { program := "ytnlpgjdgiappcaa", sum := "1ad254b16709f868bf23144854bd6d1c47b6455a75f408c4a021c0d1b9c93437", func := "watchfire/watchfirelaw15.MemberRefutes", spec := "memberRefutes", unfollowed := true, recurses := true, apart := false }
def MemberRefutesSaid : Prop := memberRefutesRow.holds Try.pinned (OpenSpec.ofChange memberRefutesSpec)

/-- ITS FALSE NEIGHBOUR: 'it returns false'. Refute it at one input. -/
def memberRefutesWrong : ChangeSpec := { name := "memberRefutes", fn := fun _ => fun
  | [d1, d2, d3] => { results := [.lit (.bool false)], args := [d1, d2, d3] }
  | _ => none }
def MemberRefutesWrongFalsely : Prop := memberRefutesRow.holds Try.pinned (OpenSpec.ofChange memberRefutesWrong)

/-- 'watchfirelaw15.MemberOrder': WHATEVER THE INPUT: true; the input reads as it did. -/
def memberOrderSpec : ChangeSpec := { name := "memberOrder", fn := fun _ => fun
  | [d1, d2, d3] => { results := [.lit (.bool true)], args := [d1, d2, d3] }
  | _ => none }
def memberOrderRow : OpenClaim := { program := "ytnlpgjdgiappcaa", sum := "1ad254b16709f868bf23144854bd6d1c47b6455a75f408c4a021c0d1b9c93437", func := "watchfire/watchfirelaw15.MemberOrder", spec := "memberOrder", unfollowed := true, recurses := true, apart := false }
def MemberOrderSaid : Prop := memberOrderRow.holds Try.pinned (OpenSpec.ofChange memberOrderSpec)

/-- ITS FALSE NEIGHBOUR: 'it returns false'. Refute it at one input. -/
def memberOrderWrong : ChangeSpec := { name := "memberOrder", fn := fun _ => fun
  | [d1, d2, d3] => { results := [.lit (.bool false)], args := [d1, d2, d3] }
  | _ => none }
def MemberOrderWrongFalsely : Prop := memberOrderRow.holds Try.pinned (OpenSpec.ofChange memberOrderWrong)

/-- 'watchfirelaw15.MemberPlaces': WHATEVER THE INPUT: true; the input reads as it did. -/
def memberPlacesSpec : ChangeSpec := { name := "memberPlaces", fn := fun _ => fun
  | [d] => { results := [.lit (.bool true)], args := [d] }
  | _ => none }
def memberPlacesRow : OpenClaim := { program := "ytnlpgjdgiappcaa", sum := "1ad254b16709f868bf23144854bd6d1c47b6455a75f408c4a021c0d1b9c93437", func := "watchfire/watchfirelaw15.MemberPlaces", spec := "memberPlaces", unfollowed := true, recurses := true, apart := false }
def MemberPlacesSaid : Prop := memberPlacesRow.holds Try.pinned (OpenSpec.ofChange memberPlacesSpec)

/-- ITS FALSE NEIGHBOUR: 'it returns false'. Refute it at one input. -/
def memberPlacesWrong : ChangeSpec := { name := "memberPlaces", fn := fun _ => fun
  | [d] => { results := [.lit (.bool false)], args := [d] }
  | _ => none }
def MemberPlacesWrongFalsely : Prop := memberPlacesRow.holds Try.pinned (OpenSpec.ofChange memberPlacesWrong)

/-- 'watchfirelaw15.MemberHears': WHATEVER THE INPUT: true; the input reads as it did. -/
def memberHearsSpec : ChangeSpec := { name := "memberHears", fn := fun _ => fun
  | [d1, d2, d3] => { results := [.lit (.bool true)], args := [d1, d2, d3] }
  | _ => none }
def memberHearsRow : OpenClaim := { program := "ytnlpgjdgiappcaa", sum := "1ad254b16709f868bf23144854bd6d1c47b6455a75f408c4a021c0d1b9c93437", func := "watchfire/watchfirelaw15.MemberHears", spec := "memberHears", unfollowed := true, recurses := true, apart := false }
def MemberHearsSaid : Prop := memberHearsRow.holds Try.pinned (OpenSpec.ofChange memberHearsSpec)

/-- ITS FALSE NEIGHBOUR: 'it returns false'. Refute it at one input. -/
def memberHearsWrong : ChangeSpec := { name := "memberHears", fn := fun _ => fun
  | [d1, d2, d3] => { results := [.lit (.bool false)], args := [d1, d2, d3] }
  | _ => none }
def MemberHearsWrongFalsely : Prop := memberHearsRow.holds Try.pinned (OpenSpec.ofChange memberHearsWrong)

/-- 'watchfirelaw15.MemberRises': WHATEVER THE INPUT: true; the input reads as it did. -/
def memberRisesSpec : ChangeSpec := { name := "memberRises", fn := fun _ => fun
  | [d1, d2] => { results := [.lit (.bool true)], args := [d1, d2] }
  | _ => none }
def memberRisesRow : OpenClaim := { program := "ytnlpgjdgiappcaa", sum := "1ad254b16709f868bf23144854bd6d1c47b6455a75f408c4a021c0d1b9c93437", func := "watchfire/watchfirelaw15.MemberRises", spec := "memberRises", unfollowed := true, recurses := true, apart := false }
def MemberRisesSaid : Prop := memberRisesRow.holds Try.pinned (OpenSpec.ofChange memberRisesSpec)

/-- ITS FALSE NEIGHBOUR: 'it returns false'. Refute it at one input. -/
def memberRisesWrong : ChangeSpec := { name := "memberRises", fn := fun _ => fun
  | [d1, d2] => { results := [.lit (.bool false)], args := [d1, d2] }
  | _ => none }
def MemberRisesWrongFalsely : Prop := memberRisesRow.holds Try.pinned (OpenSpec.ofChange memberRisesWrong)

/-- 'watchfirelaw15.MemberMerges': WHATEVER THE INPUT: true; the input reads as it did. -/
def memberMergesSpec : ChangeSpec := { name := "memberMerges", fn := fun _ => fun
  | [d1, d2, d3] => { results := [.lit (.bool true)], args := [d1, d2, d3] }
  | _ => none }
def memberMergesRow : OpenClaim := { program := "ytnlpgjdgiappcaa", sum := "1ad254b16709f868bf23144854bd6d1c47b6455a75f408c4a021c0d1b9c93437", func := "watchfire/watchfirelaw15.MemberMerges", spec := "memberMerges", unfollowed := true, recurses := true, apart := false }
def MemberMergesSaid : Prop := memberMergesRow.holds Try.pinned (OpenSpec.ofChange memberMergesSpec)

/-- ITS FALSE NEIGHBOUR: 'it returns false'. Refute it at one input. -/
def memberMergesWrong : ChangeSpec := { name := "memberMerges", fn := fun _ => fun
  | [d1, d2, d3] => { results := [.lit (.bool false)], args := [d1, d2, d3] }
  | _ => none }
def MemberMergesWrongFalsely : Prop := memberMergesRow.holds Try.pinned (OpenSpec.ofChange memberMergesWrong)

/-- 'watchfirelaw16.ProbeCalm': WHATEVER THE INPUT: true; the input reads as it did. -/
def probeCalmSpec : ChangeSpec := { name := "probeCalm", fn := fun _ => fun
  | [d1, d2] => { results := [.lit (.bool true)], args := [d1, d2] }
  | _ => none }
def probeCalmRow : OpenClaim := { program := "ytnlpgjdgiappcaa", sum := "1ad254b16709f868bf23144854bd6d1c47b6455a75f408c4a021c0d1b9c93437", func := "watchfire/watchfirelaw16.ProbeCalm", spec := "probeCalm", unfollowed := true, recurses := true, apart := false }
def ProbeCalmSaid : Prop := probeCalmRow.holds Try.pinned (OpenSpec.ofChange probeCalmSpec)

/-- ITS FALSE NEIGHBOUR: 'it returns false'. Refute it at one input. -/
def probeCalmWrong : ChangeSpec := { name := "probeCalm", fn := fun _ => fun
  | [d1, d2] => { results := [.lit (.bool false)], args := [d1, d2] }
  | _ => none }
def ProbeCalmWrongFalsely : Prop := probeCalmRow.holds Try.pinned (OpenSpec.ofChange probeCalmWrong)

/-- 'watchfirelaw16.ProbeDies': WHATEVER THE INPUT: true; the input reads as it did. -/
def probeDiesSpec : ChangeSpec := { name := "probeDies", fn := fun _ => fun
  | [d1, d2] => { results := [.lit (.bool true)], args := [d1, d2] }
  | _ => none }
def probeDiesRow : OpenClaim := { program := "ytnlpgjdgiappcaa", sum := "1ad254b16709f868bf23144854bd6d1c47b6455a75f408c4a021c0d1b9c93437", func := "watchfire/watchfirelaw16.ProbeDies", spec := "probeDies", unfollowed := true, recurses := true, apart := false }
def ProbeDiesSaid : Prop := probeDiesRow.holds Try.pinned (OpenSpec.ofChange probeDiesSpec)

/-- ITS FALSE NEIGHBOUR: 'it returns false'. Refute it at one input. -/
def probeDiesWrong : ChangeSpec := { name := "probeDies", fn := fun _ => fun
  | [d1, d2] => { results := [.lit (.bool false)], args := [d1, d2] }
  | _ => none }
def ProbeDiesWrongFalsely : Prop := probeDiesRow.holds Try.pinned (OpenSpec.ofChange probeDiesWrong)

/-- 'watchfirelaw16.ProbeRises': WHATEVER THE INPUT: true; the input reads as it did. -/
def probeRisesSpec : ChangeSpec := { name := "probeRises", fn := fun _ => fun
  | [d] => { results := [.lit (.bool true)], args := [d] }
  | _ => none }
def probeRisesRow : OpenClaim := { program := "ytnlpgjdgiappcaa", sum := "1ad254b16709f868bf23144854bd6d1c47b6455a75f408c4a021c0d1b9c93437", func := "watchfire/watchfirelaw16.ProbeRises", spec := "probeRises", unfollowed := true, recurses := true, apart := false }
def ProbeRisesSaid : Prop := probeRisesRow.holds Try.pinned (OpenSpec.ofChange probeRisesSpec)

/-- ITS FALSE NEIGHBOUR: 'it returns false'. Refute it at one input. -/
def probeRisesWrong : ChangeSpec := { name := "probeRises", fn := fun _ => fun
  | [d] => { results := [.lit (.bool false)], args := [d] }
  | _ => none }
def ProbeRisesWrongFalsely : Prop := probeRisesRow.holds Try.pinned (OpenSpec.ofChange probeRisesWrong)

/-- 'watchfirelaw16.ProbeOthers': WHATEVER THE INPUT: true; the input reads as it did. -/
def probeOthersSpec : ChangeSpec := { name := "probeOthers", fn := fun _ => fun
  | [d1, d2] => { results := [.lit (.bool true)], args := [d1, d2] }
  | _ => none }
def probeOthersRow : OpenClaim := { program := "ytnlpgjdgiappcaa", sum := "1ad254b16709f868bf23144854bd6d1c47b6455a75f408c4a021c0d1b9c93437", func := "watchfire/watchfirelaw16.ProbeOthers", spec := "probeOthers", unfollowed := true, recurses := true, apart := false }
def ProbeOthersSaid : Prop := probeOthersRow.holds Try.pinned (OpenSpec.ofChange probeOthersSpec)

/-- ITS FALSE NEIGHBOUR: 'it returns false'. Refute it at one input. -/
def probeOthersWrong : ChangeSpec := { name := "probeOthers", fn := fun _ => fun
  | [d1, d2] => { results := [.lit (.bool false)], args := [d1, d2] }
  | _ => none }
def ProbeOthersWrongFalsely : Prop := probeOthersRow.holds Try.pinned (OpenSpec.ofChange probeOthersWrong)

/-- 'watchfirelaw16.ProbePlays': WHATEVER THE INPUT: true; the input reads as it did. -/
def probePlaysSpec : ChangeSpec := { name := "probePlays", fn := fun _ => fun
  | [d1, d2, d3] => { results := [.lit (.bool true)], args := [d1, d2, d3] }
  | _ => none }
def probePlaysRow : OpenClaim := { program := "ytnlpgjdgiappcaa", sum := "1ad254b16709f868bf23144854bd6d1c47b6455a75f408c4a021c0d1b9c93437", func := "watchfire/watchfirelaw16.ProbePlays", spec := "probePlays", unfollowed := true, recurses := true, apart := false }
def ProbePlaysSaid : Prop := probePlaysRow.holds Try.pinned (OpenSpec.ofChange probePlaysSpec)

/-- ITS FALSE NEIGHBOUR: 'it returns false'. Refute it at one input. -/
def probePlaysWrong : ChangeSpec := { name := "probePlays", fn := fun _ => fun
  | [d1, d2, d3] => { results := [.lit (.bool false)], args := [d1, d2, d3] }
  | _ => none }
def ProbePlaysWrongFalsely : Prop := probePlaysRow.holds Try.pinned (OpenSpec.ofChange probePlaysWrong)

/-- 'watchfirelaw16.ProbeForks': WHATEVER THE INPUT: true; the input reads as it did. -/
def probeForksSpec : ChangeSpec := { name := "probeForks", fn := fun _ => fun
  | [d1, d2, d3] => { results := [.lit (.bool true)], args := [d1, d2, d3] }
  | _ => none }
def probeForksRow : OpenClaim := { program := "ytnlpgjdgiappcaa", sum := "1ad254b16709f868bf23144854bd6d1c47b6455a75f408c4a021c0d1b9c93437", func := "watchfire/watchfirelaw16.ProbeForks", spec := "probeForks", unfollowed := true, recurses := true, apart := false }
def ProbeForksSaid : Prop := probeForksRow.holds Try.pinned (OpenSpec.ofChange probeForksSpec)

/-- ITS FALSE NEIGHBOUR: 'it returns false'. Refute it at one input. -/
def probeForksWrong : ChangeSpec := { name := "probeForks", fn := fun _ => fun
  | [d1, d2, d3] => { results := [.lit (.bool false)], args := [d1, d2, d3] }
  | _ => none }
def ProbeForksWrongFalsely : Prop := probeForksRow.holds Try.pinned (OpenSpec.ofChange probeForksWrong)

/- THE SECOND FORM. 'bulk': how many values and letters a reading holds, each counted each time it is reached (what is shared counts as often as it is met; a slice's spare places count too). A statement '..UptoSaid' is the law's where the arguments, and the package variables that the reading takes, are together of bulk at most 1048576: NARROWER than '..Said'. Prove '..Said' where nothing that the law and all that it calls make is longer than what came in: it says more and counts as full. Else prove '..UptoSaid'. A law counts once. -/
mutual
def uptoBulk {H : Type} : DataW H → Nat
  | .lit (.string bytes) => bytes.length + 1
  | .lit _ => 1
  | .nil => 1
  | .ptr d => uptoBulk d + 1
  | .slice elems spare => uptoBulkAll elems + uptoBulkAll spare + 1
  | .agg parts => uptoBulkAll parts + 1
  | .iface _ d => uptoBulk d + 1
  | .map entries => uptoBulkEntries entries + 1
  | .held _ => 1
def uptoBulkAll {H : Type} : List (DataW H) → Nat
  | [] => 0
  | d :: r => uptoBulk d + uptoBulkAll r
def uptoBulkEntries {H : Type} : List (Lit × DataW H) → Nat
  | [] => 0
  | x :: r => uptoBulkEntry x + uptoBulkEntries r
def uptoBulkEntry {H : Type} : Lit × DataW H → Nat
  | (.string bytes, d) => bytes.length + uptoBulk d + 1
  | (_, d) => uptoBulk d + 1
 end
def uptoSmall : (H : Type) → List (DataW H) → Bool := fun _ ds => decide (uptoBulkAll ds ≤ 1048576)
def OpenSpec.upto (s : _root_.Go.ChangeSpec) : _root_.Go.OpenSpec := { _root_.Go.OpenSpec.ofChange s with cond := some uptoSmall }

/-- 'watchfirelaw15.MemberRefutes', WHERE WHAT IT READS IS OF BULK AT MOST 1048576: true; the input reads as it did. -/
def memberRefutesUptoRow : OpenClaim := { program := "ytnlpgjdgiappcaa", sum := "1ad254b16709f868bf23144854bd6d1c47b6455a75f408c4a021c0d1b9c93437", func := "watchfire/watchfirelaw15.MemberRefutes", spec := "memberRefutes", unfollowed := true, recurses := true, apart := false, narrowed := true }
def MemberRefutesUptoSaid : Prop := memberRefutesUptoRow.holds Try.pinned (OpenSpec.upto memberRefutesSpec)

/-- 'watchfirelaw15.MemberOrder', WHERE WHAT IT READS IS OF BULK AT MOST 1048576: true; the input reads as it did. -/
def memberOrderUptoRow : OpenClaim := { program := "ytnlpgjdgiappcaa", sum := "1ad254b16709f868bf23144854bd6d1c47b6455a75f408c4a021c0d1b9c93437", func := "watchfire/watchfirelaw15.MemberOrder", spec := "memberOrder", unfollowed := true, recurses := true, apart := false, narrowed := true }
def MemberOrderUptoSaid : Prop := memberOrderUptoRow.holds Try.pinned (OpenSpec.upto memberOrderSpec)

/-- 'watchfirelaw15.MemberPlaces', WHERE WHAT IT READS IS OF BULK AT MOST 1048576: true; the input reads as it did. -/
def memberPlacesUptoRow : OpenClaim := { program := "ytnlpgjdgiappcaa", sum := "1ad254b16709f868bf23144854bd6d1c47b6455a75f408c4a021c0d1b9c93437", func := "watchfire/watchfirelaw15.MemberPlaces", spec := "memberPlaces", unfollowed := true, recurses := true, apart := false, narrowed := true }
def MemberPlacesUptoSaid : Prop := memberPlacesUptoRow.holds Try.pinned (OpenSpec.upto memberPlacesSpec)

/-- 'watchfirelaw15.MemberHears', WHERE WHAT IT READS IS OF BULK AT MOST 1048576: true; the input reads as it did. -/
def memberHearsUptoRow : OpenClaim := { program := "ytnlpgjdgiappcaa", sum := "1ad254b16709f868bf23144854bd6d1c47b6455a75f408c4a021c0d1b9c93437", func := "watchfire/watchfirelaw15.MemberHears", spec := "memberHears", unfollowed := true, recurses := true, apart := false, narrowed := true }
def MemberHearsUptoSaid : Prop := memberHearsUptoRow.holds Try.pinned (OpenSpec.upto memberHearsSpec)

/-- 'watchfirelaw15.MemberRises', WHERE WHAT IT READS IS OF BULK AT MOST 1048576: true; the input reads as it did. -/
def memberRisesUptoRow : OpenClaim := { program := "ytnlpgjdgiappcaa", sum := "1ad254b16709f868bf23144854bd6d1c47b6455a75f408c4a021c0d1b9c93437", func := "watchfire/watchfirelaw15.MemberRises", spec := "memberRises", unfollowed := true, recurses := true, apart := false, narrowed := true }
def MemberRisesUptoSaid : Prop := memberRisesUptoRow.holds Try.pinned (OpenSpec.upto memberRisesSpec)

/-- 'watchfirelaw15.MemberMerges', WHERE WHAT IT READS IS OF BULK AT MOST 1048576: true; the input reads as it did. -/
def memberMergesUptoRow : OpenClaim := { program := "ytnlpgjdgiappcaa", sum := "1ad254b16709f868bf23144854bd6d1c47b6455a75f408c4a021c0d1b9c93437", func := "watchfire/watchfirelaw15.MemberMerges", spec := "memberMerges", unfollowed := true, recurses := true, apart := false, narrowed := true }
def MemberMergesUptoSaid : Prop := memberMergesUptoRow.holds Try.pinned (OpenSpec.upto memberMergesSpec)

/-- 'watchfirelaw16.ProbeCalm', WHERE WHAT IT READS IS OF BULK AT MOST 1048576: true; the input reads as it did. -/
def probeCalmUptoRow : OpenClaim := { program := "ytnlpgjdgiappcaa", sum := "1ad254b16709f868bf23144854bd6d1c47b6455a75f408c4a021c0d1b9c93437", func := "watchfire/watchfirelaw16.ProbeCalm", spec := "probeCalm", unfollowed := true, recurses := true, apart := false, narrowed := true }
def ProbeCalmUptoSaid : Prop := probeCalmUptoRow.holds Try.pinned (OpenSpec.upto probeCalmSpec)

/-- 'watchfirelaw16.ProbeDies', WHERE WHAT IT READS IS OF BULK AT MOST 1048576: true; the input reads as it did. -/
def probeDiesUptoRow : OpenClaim := { program := "ytnlpgjdgiappcaa", sum := "1ad254b16709f868bf23144854bd6d1c47b6455a75f408c4a021c0d1b9c93437", func := "watchfire/watchfirelaw16.ProbeDies", spec := "probeDies", unfollowed := true, recurses := true, apart := false, narrowed := true }
def ProbeDiesUptoSaid : Prop := probeDiesUptoRow.holds Try.pinned (OpenSpec.upto probeDiesSpec)

/-- 'watchfirelaw16.ProbeRises', WHERE WHAT IT READS IS OF BULK AT MOST 1048576: true; the input reads as it did. -/
def probeRisesUptoRow : OpenClaim := { program := "ytnlpgjdgiappcaa", sum := "1ad254b16709f868bf23144854bd6d1c47b6455a75f408c4a021c0d1b9c93437", func := "watchfire/watchfirelaw16.ProbeRises", spec := "probeRises", unfollowed := true, recurses := true, apart := false, narrowed := true }
def ProbeRisesUptoSaid : Prop := probeRisesUptoRow.holds Try.pinned (OpenSpec.upto probeRisesSpec)

/-- 'watchfirelaw16.ProbeOthers', WHERE WHAT IT READS IS OF BULK AT MOST 1048576: true; the input reads as it did. -/
def probeOthersUptoRow : OpenClaim := { program := "ytnlpgjdgiappcaa", sum := "1ad254b16709f868bf23144854bd6d1c47b6455a75f408c4a021c0d1b9c93437", func := "watchfire/watchfirelaw16.ProbeOthers", spec := "probeOthers", unfollowed := true, recurses := true, apart := false, narrowed := true }
def ProbeOthersUptoSaid : Prop := probeOthersUptoRow.holds Try.pinned (OpenSpec.upto probeOthersSpec)

/-- 'watchfirelaw16.ProbePlays', WHERE WHAT IT READS IS OF BULK AT MOST 1048576: true; the input reads as it did. -/
def probePlaysUptoRow : OpenClaim := { program := "ytnlpgjdgiappcaa", sum := "1ad254b16709f868bf23144854bd6d1c47b6455a75f408c4a021c0d1b9c93437", func := "watchfire/watchfirelaw16.ProbePlays", spec := "probePlays", unfollowed := true, recurses := true, apart := false, narrowed := true }
def ProbePlaysUptoSaid : Prop := probePlaysUptoRow.holds Try.pinned (OpenSpec.upto probePlaysSpec)

/-- 'watchfirelaw16.ProbeForks', WHERE WHAT IT READS IS OF BULK AT MOST 1048576: true; the input reads as it did. -/
def probeForksUptoRow : OpenClaim := { program := "ytnlpgjdgiappcaa", sum := "1ad254b16709f868bf23144854bd6d1c47b6455a75f408c4a021c0d1b9c93437", func := "watchfire/watchfirelaw16.ProbeForks", spec := "probeForks", unfollowed := true, recurses := true, apart := false, narrowed := true }
def ProbeForksUptoSaid : Prop := probeForksUptoRow.holds Try.pinned (OpenSpec.upto probeForksSpec)

end Rows
end Go.Proofs.Ytnlpgjdgiappcaa
