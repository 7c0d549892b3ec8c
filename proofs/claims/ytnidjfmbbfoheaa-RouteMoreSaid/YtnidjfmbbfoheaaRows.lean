/-
  No cell of these rows narrows 'for every input' (looked for: loops, veiled, ifaces, maps, wideKeys, modest, calm, conditions, laid).
  DERIVED. THE GIVEN ROWS OF THIS SEAT. 20 by the template 'for every input the law returns true; each argument reads behind the call as it read before'; 0 by the template 'total and deterministic' (their statements: YtnidjfmbbfoheaaTotals.lean).
  GIVEN WITH THE SEED: the statements are not yours to turn. If you find one false, say at which input.
  Laid BY PROGRAM, IN A SANDBOX (cutbox-rows.mjs): the forced cells as the released guide's own fill.sh prints them over the translation 5ff60dac6ee2da09… (all of the seat's roots in one cut). By AI agents, Wed Nov 11 2026. No macro, syntax, notation, axiom, sorry.
-/
import Derived.Test.YtnidjfmbbfoheaaChecked
import GoSem.Claim
import GoSem.ClaimJoined
import GoSem.ClaimMapViews
import Derived.JoinedTies
import Derived.KernelRfl
namespace Go.Proofs.Ytnidjfmbbfoheaa
/- THE CELL 'sum', in the pinned program and in every row, IS THE sha256 OF THE DUMP (.gsa) THAT YtnidjfmbbfoheaaProg.lean LOADS. Nothing in Lean hashes anything: it is a label: what it is worth is what the hold of that sum in a sandbox is worth. -/
noncomputable def Try.pinned : Pinned := { name := "ytnidjfmbbfoheaa", sum := "5ff60dac6ee2da0930b276c010b71aecdc9bc1392c17a8c8cfc5f6f1a52f94bf", checked := Try.checked }
namespace Rows
def none {H : Type} : Left H := { results := [], args := [] }

/-- 'watchfirelaw03.RegexQuotes': WHATEVER THE INPUT: true; the input reads as it did. -/
def regexQuotesSpec : ChangeSpec := { name := "regexQuotes", fn := fun _ => fun
  | [d] => { results := [.lit (.bool true)], args := [d] }
  | _ => none }
def regexQuotesRow : OpenClaim := { program := "ytnidjfmbbfoheaa", sum := "5ff60dac6ee2da0930b276c010b71aecdc9bc1392c17a8c8cfc5f6f1a52f94bf", func := "watchfire/watchfirelaw03.RegexQuotes", spec := "regexQuotes", inPlace := ["internal/bytealg.IndexByteString", "internal/abi.NoEscape"], unfollowed := true, recurses := true, apart := false }
def RegexQuotesSaid : Prop := regexQuotesRow.holds Try.pinned (OpenSpec.ofChange regexQuotesSpec)

/-- ITS FALSE NEIGHBOUR: 'it returns false'. Refute it at one input. -/
def regexQuotesWrong : ChangeSpec := { name := "regexQuotes", fn := fun _ => fun
  | [d] => { results := [.lit (.bool false)], args := [d] }
  | _ => none }
def RegexQuotesWrongFalsely : Prop := regexQuotesRow.holds Try.pinned (OpenSpec.ofChange regexQuotesWrong)

/-- 'watchfirelaw03.RegexPlain': WHATEVER THE INPUT: true; the input reads as it did. -/
def regexPlainSpec : ChangeSpec := { name := "regexPlain", fn := fun _ => fun
  | [d1, d2] => { results := [.lit (.bool true)], args := [d1, d2] }
  | _ => none }
def regexPlainRow : OpenClaim := { program := "ytnidjfmbbfoheaa", sum := "5ff60dac6ee2da0930b276c010b71aecdc9bc1392c17a8c8cfc5f6f1a52f94bf", func := "watchfire/watchfirelaw03.RegexPlain", spec := "regexPlain", inPlace := ["internal/bytealg.IndexByteString", "internal/abi.NoEscape"], unfollowed := true, recurses := true, apart := false }
def RegexPlainSaid : Prop := regexPlainRow.holds Try.pinned (OpenSpec.ofChange regexPlainSpec)

/-- ITS FALSE NEIGHBOUR: 'it returns false'. Refute it at one input. -/
def regexPlainWrong : ChangeSpec := { name := "regexPlain", fn := fun _ => fun
  | [d1, d2] => { results := [.lit (.bool false)], args := [d1, d2] }
  | _ => none }
def RegexPlainWrongFalsely : Prop := regexPlainRow.holds Try.pinned (OpenSpec.ofChange regexPlainWrong)

/-- 'watchfirelaw03.RegexOr': WHATEVER THE INPUT: true; the input reads as it did. -/
def regexOrSpec : ChangeSpec := { name := "regexOr", fn := fun _ => fun
  | [d1, d2, d3] => { results := [.lit (.bool true)], args := [d1, d2, d3] }
  | _ => none }
def regexOrRow : OpenClaim := { program := "ytnidjfmbbfoheaa", sum := "5ff60dac6ee2da0930b276c010b71aecdc9bc1392c17a8c8cfc5f6f1a52f94bf", func := "watchfire/watchfirelaw03.RegexOr", spec := "regexOr", inPlace := ["internal/bytealg.IndexByteString", "internal/abi.NoEscape"], unfollowed := true, recurses := true, apart := false }
def RegexOrSaid : Prop := regexOrRow.holds Try.pinned (OpenSpec.ofChange regexOrSpec)

/-- ITS FALSE NEIGHBOUR: 'it returns false'. Refute it at one input. -/
def regexOrWrong : ChangeSpec := { name := "regexOr", fn := fun _ => fun
  | [d1, d2, d3] => { results := [.lit (.bool false)], args := [d1, d2, d3] }
  | _ => none }
def RegexOrWrongFalsely : Prop := regexOrRow.holds Try.pinned (OpenSpec.ofChange regexOrWrong)

/-- 'watchfirelaw03.RegexBoth': WHATEVER THE INPUT: true; the input reads as it did. -/
def regexBothSpec : ChangeSpec := { name := "regexBoth", fn := fun _ => fun
  | [d1, d2, d3] => { results := [.lit (.bool true)], args := [d1, d2, d3] }
  | _ => none }
def regexBothRow : OpenClaim := { program := "ytnidjfmbbfoheaa", sum := "5ff60dac6ee2da0930b276c010b71aecdc9bc1392c17a8c8cfc5f6f1a52f94bf", func := "watchfire/watchfirelaw03.RegexBoth", spec := "regexBoth", inPlace := ["internal/bytealg.IndexByteString", "internal/abi.NoEscape"], unfollowed := true, recurses := true, apart := false }
def RegexBothSaid : Prop := regexBothRow.holds Try.pinned (OpenSpec.ofChange regexBothSpec)

/-- ITS FALSE NEIGHBOUR: 'it returns false'. Refute it at one input. -/
def regexBothWrong : ChangeSpec := { name := "regexBoth", fn := fun _ => fun
  | [d1, d2, d3] => { results := [.lit (.bool false)], args := [d1, d2, d3] }
  | _ => none }
def RegexBothWrongFalsely : Prop := regexBothRow.holds Try.pinned (OpenSpec.ofChange regexBothWrong)

/-- 'watchfirelaw03.RegexStar': WHATEVER THE INPUT: true; the input reads as it did. -/
def regexStarSpec : ChangeSpec := { name := "regexStar", fn := fun _ => fun
  | [d1, d2, d3] => { results := [.lit (.bool true)], args := [d1, d2, d3] }
  | _ => none }
def regexStarRow : OpenClaim := { program := "ytnidjfmbbfoheaa", sum := "5ff60dac6ee2da0930b276c010b71aecdc9bc1392c17a8c8cfc5f6f1a52f94bf", func := "watchfire/watchfirelaw03.RegexStar", spec := "regexStar", inPlace := ["internal/bytealg.IndexByteString", "internal/abi.NoEscape"], unfollowed := true, recurses := true, apart := false }
def RegexStarSaid : Prop := regexStarRow.holds Try.pinned (OpenSpec.ofChange regexStarSpec)

/-- ITS FALSE NEIGHBOUR: 'it returns false'. Refute it at one input. -/
def regexStarWrong : ChangeSpec := { name := "regexStar", fn := fun _ => fun
  | [d1, d2, d3] => { results := [.lit (.bool false)], args := [d1, d2, d3] }
  | _ => none }
def RegexStarWrongFalsely : Prop := regexStarRow.holds Try.pinned (OpenSpec.ofChange regexStarWrong)

/-- 'watchfirelaw03.RegexSets': WHATEVER THE INPUT: true; the input reads as it did. -/
def regexSetsSpec : ChangeSpec := { name := "regexSets", fn := fun _ => fun
  | [d1, d2] => { results := [.lit (.bool true)], args := [d1, d2] }
  | _ => none }
def regexSetsRow : OpenClaim := { program := "ytnidjfmbbfoheaa", sum := "5ff60dac6ee2da0930b276c010b71aecdc9bc1392c17a8c8cfc5f6f1a52f94bf", func := "watchfire/watchfirelaw03.RegexSets", spec := "regexSets", inPlace := ["internal/bytealg.IndexByteString", "internal/abi.NoEscape"], unfollowed := true, recurses := true, apart := false }
def RegexSetsSaid : Prop := regexSetsRow.holds Try.pinned (OpenSpec.ofChange regexSetsSpec)

/-- ITS FALSE NEIGHBOUR: 'it returns false'. Refute it at one input. -/
def regexSetsWrong : ChangeSpec := { name := "regexSets", fn := fun _ => fun
  | [d1, d2] => { results := [.lit (.bool false)], args := [d1, d2] }
  | _ => none }
def RegexSetsWrongFalsely : Prop := regexSetsRow.holds Try.pinned (OpenSpec.ofChange regexSetsWrong)

/-- 'watchfirelaw04.MatchNot': WHATEVER THE INPUT: true; the input reads as it did. -/
def matchNotSpec : ChangeSpec := { name := "matchNot", fn := fun _ => fun
  | [d1, d2] => { results := [.lit (.bool true)], args := [d1, d2] }
  | _ => none }
def matchNotRow : OpenClaim := { program := "ytnidjfmbbfoheaa", sum := "5ff60dac6ee2da0930b276c010b71aecdc9bc1392c17a8c8cfc5f6f1a52f94bf", func := "watchfire/watchfirelaw04.MatchNot", spec := "matchNot", inPlace := ["internal/bytealg.IndexByteString"], unfollowed := true, recurses := true, apart := false }
def MatchNotSaid : Prop := matchNotRow.holds Try.pinned (OpenSpec.ofChange matchNotSpec)

/-- ITS FALSE NEIGHBOUR: 'it returns false'. Refute it at one input. -/
def matchNotWrong : ChangeSpec := { name := "matchNot", fn := fun _ => fun
  | [d1, d2] => { results := [.lit (.bool false)], args := [d1, d2] }
  | _ => none }
def MatchNotWrongFalsely : Prop := matchNotRow.holds Try.pinned (OpenSpec.ofChange matchNotWrong)

/-- 'watchfirelaw04.MatchMissing': WHATEVER THE INPUT: true; the input reads as it did. -/
def matchMissingSpec : ChangeSpec := { name := "matchMissing", fn := fun _ => fun
  | [d1, d2] => { results := [.lit (.bool true)], args := [d1, d2] }
  | _ => none }
def matchMissingRow : OpenClaim := { program := "ytnidjfmbbfoheaa", sum := "5ff60dac6ee2da0930b276c010b71aecdc9bc1392c17a8c8cfc5f6f1a52f94bf", func := "watchfire/watchfirelaw04.MatchMissing", spec := "matchMissing", inPlace := ["internal/bytealg.IndexByteString"], unfollowed := true, recurses := true, apart := false }
def MatchMissingSaid : Prop := matchMissingRow.holds Try.pinned (OpenSpec.ofChange matchMissingSpec)

/-- ITS FALSE NEIGHBOUR: 'it returns false'. Refute it at one input. -/
def matchMissingWrong : ChangeSpec := { name := "matchMissing", fn := fun _ => fun
  | [d1, d2] => { results := [.lit (.bool false)], args := [d1, d2] }
  | _ => none }
def MatchMissingWrongFalsely : Prop := matchMissingRow.holds Try.pinned (OpenSpec.ofChange matchMissingWrong)

/-- 'watchfirelaw06.InhibitSelf': WHATEVER THE INPUT: true; the input reads as it did. -/
def inhibitSelfSpec : ChangeSpec := { name := "inhibitSelf", fn := fun _ => fun
  | [d1, d2, d3] => { results := [.lit (.bool true)], args := [d1, d2, d3] }
  | _ => none }
def inhibitSelfRow : OpenClaim := { program := "ytnidjfmbbfoheaa", sum := "5ff60dac6ee2da0930b276c010b71aecdc9bc1392c17a8c8cfc5f6f1a52f94bf", func := "watchfire/watchfirelaw06.InhibitSelf", spec := "inhibitSelf", inPlace := ["internal/bytealg.IndexByteString"], unfollowed := true, recurses := true, apart := false }
def InhibitSelfSaid : Prop := inhibitSelfRow.holds Try.pinned (OpenSpec.ofChange inhibitSelfSpec)

/-- ITS FALSE NEIGHBOUR: 'it returns false'. Refute it at one input. -/
def inhibitSelfWrong : ChangeSpec := { name := "inhibitSelf", fn := fun _ => fun
  | [d1, d2, d3] => { results := [.lit (.bool false)], args := [d1, d2, d3] }
  | _ => none }
def InhibitSelfWrongFalsely : Prop := inhibitSelfRow.holds Try.pinned (OpenSpec.ofChange inhibitSelfWrong)

/-- 'watchfirelaw06.InhibitEqual': WHATEVER THE INPUT: true; the input reads as it did. -/
def inhibitEqualSpec : ChangeSpec := { name := "inhibitEqual", fn := fun _ => fun
  | [d1, d2, d3] => { results := [.lit (.bool true)], args := [d1, d2, d3] }
  | _ => none }
def inhibitEqualRow : OpenClaim := { program := "ytnidjfmbbfoheaa", sum := "5ff60dac6ee2da0930b276c010b71aecdc9bc1392c17a8c8cfc5f6f1a52f94bf", func := "watchfire/watchfirelaw06.InhibitEqual", spec := "inhibitEqual", inPlace := ["internal/bytealg.IndexByteString"], unfollowed := true, recurses := true, apart := false }
def InhibitEqualSaid : Prop := inhibitEqualRow.holds Try.pinned (OpenSpec.ofChange inhibitEqualSpec)

/-- ITS FALSE NEIGHBOUR: 'it returns false'. Refute it at one input. -/
def inhibitEqualWrong : ChangeSpec := { name := "inhibitEqual", fn := fun _ => fun
  | [d1, d2, d3] => { results := [.lit (.bool false)], args := [d1, d2, d3] }
  | _ => none }
def InhibitEqualWrongFalsely : Prop := inhibitEqualRow.holds Try.pinned (OpenSpec.ofChange inhibitEqualWrong)

/-- 'watchfirelaw04.MatchChecks': WHATEVER THE INPUT: true; the input reads as it did. -/
def matchChecksSpec : ChangeSpec := { name := "matchChecks", fn := fun _ => fun
  | [d1, d2] => { results := [.lit (.bool true)], args := [d1, d2] }
  | _ => none }
def matchChecksRow : OpenClaim := { program := "ytnidjfmbbfoheaa", sum := "5ff60dac6ee2da0930b276c010b71aecdc9bc1392c17a8c8cfc5f6f1a52f94bf", func := "watchfire/watchfirelaw04.MatchChecks", spec := "matchChecks", inPlace := ["internal/bytealg.IndexByteString"], unfollowed := true, recurses := true, apart := false }
def MatchChecksSaid : Prop := matchChecksRow.holds Try.pinned (OpenSpec.ofChange matchChecksSpec)

/-- ITS FALSE NEIGHBOUR: 'it returns false'. Refute it at one input. -/
def matchChecksWrong : ChangeSpec := { name := "matchChecks", fn := fun _ => fun
  | [d1, d2] => { results := [.lit (.bool false)], args := [d1, d2] }
  | _ => none }
def MatchChecksWrongFalsely : Prop := matchChecksRow.holds Try.pinned (OpenSpec.ofChange matchChecksWrong)

/-- 'watchfirelaw04.MatchSplits': WHATEVER THE INPUT: true; the input reads as it did. -/
def matchSplitsSpec : ChangeSpec := { name := "matchSplits", fn := fun _ => fun
  | [d1, d2, d3] => { results := [.lit (.bool true)], args := [d1, d2, d3] }
  | _ => none }
def matchSplitsRow : OpenClaim := { program := "ytnidjfmbbfoheaa", sum := "5ff60dac6ee2da0930b276c010b71aecdc9bc1392c17a8c8cfc5f6f1a52f94bf", func := "watchfire/watchfirelaw04.MatchSplits", spec := "matchSplits", inPlace := ["internal/bytealg.IndexByteString"], unfollowed := true, recurses := true, apart := false }
def MatchSplitsSaid : Prop := matchSplitsRow.holds Try.pinned (OpenSpec.ofChange matchSplitsSpec)

/-- ITS FALSE NEIGHBOUR: 'it returns false'. Refute it at one input. -/
def matchSplitsWrong : ChangeSpec := { name := "matchSplits", fn := fun _ => fun
  | [d1, d2, d3] => { results := [.lit (.bool false)], args := [d1, d2, d3] }
  | _ => none }
def MatchSplitsWrongFalsely : Prop := matchSplitsRow.holds Try.pinned (OpenSpec.ofChange matchSplitsWrong)

/-- 'watchfirelaw06.InhibitMore': WHATEVER THE INPUT: true; the input reads as it did. -/
def inhibitMoreSpec : ChangeSpec := { name := "inhibitMore", fn := fun _ => fun
  | [d1, d2, d3] => { results := [.lit (.bool true)], args := [d1, d2, d3] }
  | _ => none }
def inhibitMoreRow : OpenClaim := { program := "ytnidjfmbbfoheaa", sum := "5ff60dac6ee2da0930b276c010b71aecdc9bc1392c17a8c8cfc5f6f1a52f94bf", func := "watchfire/watchfirelaw06.InhibitMore", spec := "inhibitMore", inPlace := ["internal/bytealg.IndexByteString"], unfollowed := true, recurses := true, apart := false }
def InhibitMoreSaid : Prop := inhibitMoreRow.holds Try.pinned (OpenSpec.ofChange inhibitMoreSpec)

/-- ITS FALSE NEIGHBOUR: 'it returns false'. Refute it at one input. -/
def inhibitMoreWrong : ChangeSpec := { name := "inhibitMore", fn := fun _ => fun
  | [d1, d2, d3] => { results := [.lit (.bool false)], args := [d1, d2, d3] }
  | _ => none }
def InhibitMoreWrongFalsely : Prop := inhibitMoreRow.holds Try.pinned (OpenSpec.ofChange inhibitMoreWrong)

/-- 'watchfirelaw04.MatchTexts': WHATEVER THE INPUT: true; the input reads as it did. -/
def matchTextsSpec : ChangeSpec := { name := "matchTexts", fn := fun _ => fun
  | [d1, d2] => { results := [.lit (.bool true)], args := [d1, d2] }
  | _ => none }
def matchTextsRow : OpenClaim := { program := "ytnidjfmbbfoheaa", sum := "5ff60dac6ee2da0930b276c010b71aecdc9bc1392c17a8c8cfc5f6f1a52f94bf", func := "watchfire/watchfirelaw04.MatchTexts", spec := "matchTexts", inPlace := ["internal/bytealg.IndexByteString"], unfollowed := true, recurses := true, apart := false }
def MatchTextsSaid : Prop := matchTextsRow.holds Try.pinned (OpenSpec.ofChange matchTextsSpec)

/-- ITS FALSE NEIGHBOUR: 'it returns false'. Refute it at one input. -/
def matchTextsWrong : ChangeSpec := { name := "matchTexts", fn := fun _ => fun
  | [d1, d2] => { results := [.lit (.bool false)], args := [d1, d2] }
  | _ => none }
def MatchTextsWrongFalsely : Prop := matchTextsRow.holds Try.pinned (OpenSpec.ofChange matchTextsWrong)

/-- 'watchfirelaw04.MatchBack': WHATEVER THE INPUT: true; the input reads as it did. -/
def matchBackSpec : ChangeSpec := { name := "matchBack", fn := fun _ => fun
  | [d1, d2, d3] => { results := [.lit (.bool true)], args := [d1, d2, d3] }
  | _ => none }
def matchBackRow : OpenClaim := { program := "ytnidjfmbbfoheaa", sum := "5ff60dac6ee2da0930b276c010b71aecdc9bc1392c17a8c8cfc5f6f1a52f94bf", func := "watchfire/watchfirelaw04.MatchBack", spec := "matchBack", inPlace := ["internal/bytealg.IndexByteString"], unfollowed := true, recurses := true, apart := false }
def MatchBackSaid : Prop := matchBackRow.holds Try.pinned (OpenSpec.ofChange matchBackSpec)

/-- ITS FALSE NEIGHBOUR: 'it returns false'. Refute it at one input. -/
def matchBackWrong : ChangeSpec := { name := "matchBack", fn := fun _ => fun
  | [d1, d2, d3] => { results := [.lit (.bool false)], args := [d1, d2, d3] }
  | _ => none }
def MatchBackWrongFalsely : Prop := matchBackRow.holds Try.pinned (OpenSpec.ofChange matchBackWrong)

/-- 'watchfirelaw05.RouteChecks': WHATEVER THE INPUT: true; the input reads as it did. -/
def routeChecksSpec : ChangeSpec := { name := "routeChecks", fn := fun _ => fun
  | [d] => { results := [.lit (.bool true)], args := [d] }
  | _ => none }
def routeChecksRow : OpenClaim := { program := "ytnidjfmbbfoheaa", sum := "5ff60dac6ee2da0930b276c010b71aecdc9bc1392c17a8c8cfc5f6f1a52f94bf", func := "watchfire/watchfirelaw05.RouteChecks", spec := "routeChecks", inPlace := ["internal/bytealg.IndexByteString"], unfollowed := true, recurses := true, apart := false }
def RouteChecksSaid : Prop := routeChecksRow.holds Try.pinned (OpenSpec.ofChange routeChecksSpec)

/-- ITS FALSE NEIGHBOUR: 'it returns false'. Refute it at one input. -/
def routeChecksWrong : ChangeSpec := { name := "routeChecks", fn := fun _ => fun
  | [d] => { results := [.lit (.bool false)], args := [d] }
  | _ => none }
def RouteChecksWrongFalsely : Prop := routeChecksRow.holds Try.pinned (OpenSpec.ofChange routeChecksWrong)

/-- 'watchfirelaw05.RouteSomewhere': WHATEVER THE INPUT: true; the input reads as it did. -/
def routeSomewhereSpec : ChangeSpec := { name := "routeSomewhere", fn := fun _ => fun
  | [d1, d2] => { results := [.lit (.bool true)], args := [d1, d2] }
  | _ => none }
def routeSomewhereRow : OpenClaim := { program := "ytnidjfmbbfoheaa", sum := "5ff60dac6ee2da0930b276c010b71aecdc9bc1392c17a8c8cfc5f6f1a52f94bf", func := "watchfire/watchfirelaw05.RouteSomewhere", spec := "routeSomewhere", inPlace := ["internal/bytealg.IndexByteString"], unfollowed := true, recurses := true, apart := false }
def RouteSomewhereSaid : Prop := routeSomewhereRow.holds Try.pinned (OpenSpec.ofChange routeSomewhereSpec)

/-- ITS FALSE NEIGHBOUR: 'it returns false'. Refute it at one input. -/
def routeSomewhereWrong : ChangeSpec := { name := "routeSomewhere", fn := fun _ => fun
  | [d1, d2] => { results := [.lit (.bool false)], args := [d1, d2] }
  | _ => none }
def RouteSomewhereWrongFalsely : Prop := routeSomewhereRow.holds Try.pinned (OpenSpec.ofChange routeSomewhereWrong)

/-- 'watchfirelaw05.RouteDeepest': WHATEVER THE INPUT: true; the input reads as it did. -/
def routeDeepestSpec : ChangeSpec := { name := "routeDeepest", fn := fun _ => fun
  | [d1, d2] => { results := [.lit (.bool true)], args := [d1, d2] }
  | _ => none }
def routeDeepestRow : OpenClaim := { program := "ytnidjfmbbfoheaa", sum := "5ff60dac6ee2da0930b276c010b71aecdc9bc1392c17a8c8cfc5f6f1a52f94bf", func := "watchfire/watchfirelaw05.RouteDeepest", spec := "routeDeepest", inPlace := ["internal/bytealg.IndexByteString"], unfollowed := true, recurses := true, apart := false }
def RouteDeepestSaid : Prop := routeDeepestRow.holds Try.pinned (OpenSpec.ofChange routeDeepestSpec)

/-- ITS FALSE NEIGHBOUR: 'it returns false'. Refute it at one input. -/
def routeDeepestWrong : ChangeSpec := { name := "routeDeepest", fn := fun _ => fun
  | [d1, d2] => { results := [.lit (.bool false)], args := [d1, d2] }
  | _ => none }
def RouteDeepestWrongFalsely : Prop := routeDeepestRow.holds Try.pinned (OpenSpec.ofChange routeDeepestWrong)

/-- 'watchfirelaw05.RouteMore': WHATEVER THE INPUT: true; the input reads as it did. -/
def routeMoreSpec : ChangeSpec := { name := "routeMore", fn := fun _ => fun
  | [d1, d2, d3] => { results := [.lit (.bool true)], args := [d1, d2, d3] }
  | _ => none }
def routeMoreRow : OpenClaim := { program := "ytnidjfmbbfoheaa", sum := "5ff60dac6ee2da0930b276c010b71aecdc9bc1392c17a8c8cfc5f6f1a52f94bf", func := "watchfire/watchfirelaw05.RouteMore", spec := "routeMore", inPlace := ["internal/bytealg.IndexByteString"], unfollowed := true, recurses := true, apart := false }
def RouteMoreSaid : Prop := routeMoreRow.holds Try.pinned (OpenSpec.ofChange routeMoreSpec)

/-- ITS FALSE NEIGHBOUR: 'it returns false'. Refute it at one input. -/
def routeMoreWrong : ChangeSpec := { name := "routeMore", fn := fun _ => fun
  | [d1, d2, d3] => { results := [.lit (.bool false)], args := [d1, d2, d3] }
  | _ => none }
def RouteMoreWrongFalsely : Prop := routeMoreRow.holds Try.pinned (OpenSpec.ofChange routeMoreWrong)

/-- 'watchfirelaw05.RouteSames': WHATEVER THE INPUT: true; the input reads as it did. -/
def routeSamesSpec : ChangeSpec := { name := "routeSames", fn := fun _ => fun
  | [d1, d2] => { results := [.lit (.bool true)], args := [d1, d2] }
  | _ => none }
def routeSamesRow : OpenClaim := { program := "ytnidjfmbbfoheaa", sum := "5ff60dac6ee2da0930b276c010b71aecdc9bc1392c17a8c8cfc5f6f1a52f94bf", func := "watchfire/watchfirelaw05.RouteSames", spec := "routeSames", inPlace := ["internal/bytealg.IndexByteString"], unfollowed := true, recurses := true, apart := false }
def RouteSamesSaid : Prop := routeSamesRow.holds Try.pinned (OpenSpec.ofChange routeSamesSpec)

/-- ITS FALSE NEIGHBOUR: 'it returns false'. Refute it at one input. -/
def routeSamesWrong : ChangeSpec := { name := "routeSames", fn := fun _ => fun
  | [d1, d2] => { results := [.lit (.bool false)], args := [d1, d2] }
  | _ => none }
def RouteSamesWrongFalsely : Prop := routeSamesRow.holds Try.pinned (OpenSpec.ofChange routeSamesWrong)

/- THE SECOND FORM. 'bulk': how many values and letters a reading holds, each counted each time it is reached (what is shared counts as often as it is met; a slice's spare places count too). A statement '..UptoSaid' is the law's where the arguments, and the package variables that the reading takes, are together of bulk at most 1048576: NARROWER than '..Said'. Prove '..Said' where nothing that the law and all that it calls make is longer than what came in: it says more and counts as full. Else prove '..UptoSaid'. A law counts once. -/
mutual
def uptoBulk {H : Type} : DataW H → Nat
  | .lit (.string bytes) => bytes.length + 1
  | .lit _ => 1
  | .nil => 1
  | .ptr d => uptoBulk d + 1
  | .slice elems spare => uptoBulkAll elems + uptoBulkAll spare + 1
  | .agg parts => uptoBulkAll parts + 1
  | .iface _ d => uptoBulk d + 1
  | .map entries => uptoBulkEntries entries + 1
  | .held _ => 1
def uptoBulkAll {H : Type} : List (DataW H) → Nat
  | [] => 0
  | d :: r => uptoBulk d + uptoBulkAll r
def uptoBulkEntries {H : Type} : List (Lit × DataW H) → Nat
  | [] => 0
  | x :: r => uptoBulkEntry x + uptoBulkEntries r
def uptoBulkEntry {H : Type} : Lit × DataW H → Nat
  | (.string bytes, d) => bytes.length + uptoBulk d + 1
  | (_, d) => uptoBulk d + 1
 end
def uptoSmall : (H : Type) → List (DataW H) → Bool := fun _ ds => decide (uptoBulkAll ds ≤ 1048576)
def OpenSpec.upto (s : _root_.Go.ChangeSpec) : _root_.Go.OpenSpec := { _root_.Go.OpenSpec.ofChange s with cond := some uptoSmall }

/-- 'watchfirelaw03.RegexQuotes', WHERE WHAT IT READS IS OF BULK AT MOST 1048576: true; the input reads as it did. -/
def regexQuotesUptoRow : OpenClaim := { program := "ytnidjfmbbfoheaa", sum := "5ff60dac6ee2da0930b276c010b71aecdc9bc1392c17a8c8cfc5f6f1a52f94bf", func := "watchfire/watchfirelaw03.RegexQuotes", spec := "regexQuotes", inPlace := ["internal/bytealg.IndexByteString", "internal/abi.NoEscape"], unfollowed := true, recurses := true, apart := false, narrowed := true }
def RegexQuotesUptoSaid : Prop := regexQuotesUptoRow.holds Try.pinned (OpenSpec.upto regexQuotesSpec)

/-- 'watchfirelaw03.RegexPlain', WHERE WHAT IT READS IS OF BULK AT MOST 1048576: true; the input reads as it did. -/
def regexPlainUptoRow : OpenClaim := { program := "ytnidjfmbbfoheaa", sum := "5ff60dac6ee2da0930b276c010b71aecdc9bc1392c17a8c8cfc5f6f1a52f94bf", func := "watchfire/watchfirelaw03.RegexPlain", spec := "regexPlain", inPlace := ["internal/bytealg.IndexByteString", "internal/abi.NoEscape"], unfollowed := true, recurses := true, apart := false, narrowed := true }
def RegexPlainUptoSaid : Prop := regexPlainUptoRow.holds Try.pinned (OpenSpec.upto regexPlainSpec)

/-- 'watchfirelaw03.RegexOr', WHERE WHAT IT READS IS OF BULK AT MOST 1048576: true; the input reads as it did. -/
def regexOrUptoRow : OpenClaim := { program := "ytnidjfmbbfoheaa", sum := "5ff60dac6ee2da0930b276c010b71aecdc9bc1392c17a8c8cfc5f6f1a52f94bf", func := "watchfire/watchfirelaw03.RegexOr", spec := "regexOr", inPlace := ["internal/bytealg.IndexByteString", "internal/abi.NoEscape"], unfollowed := true, recurses := true, apart := false, narrowed := true }
def RegexOrUptoSaid : Prop := regexOrUptoRow.holds Try.pinned (OpenSpec.upto regexOrSpec)

/-- 'watchfirelaw03.RegexBoth', WHERE WHAT IT READS IS OF BULK AT MOST 1048576: true; the input reads as it did. -/
def regexBothUptoRow : OpenClaim := { program := "ytnidjfmbbfoheaa", sum := "5ff60dac6ee2da0930b276c010b71aecdc9bc1392c17a8c8cfc5f6f1a52f94bf", func := "watchfire/watchfirelaw03.RegexBoth", spec := "regexBoth", inPlace := ["internal/bytealg.IndexByteString", "internal/abi.NoEscape"], unfollowed := true, recurses := true, apart := false, narrowed := true }
def RegexBothUptoSaid : Prop := regexBothUptoRow.holds Try.pinned (OpenSpec.upto regexBothSpec)

/-- 'watchfirelaw03.RegexStar', WHERE WHAT IT READS IS OF BULK AT MOST 1048576: true; the input reads as it did. -/
def regexStarUptoRow : OpenClaim := { program := "ytnidjfmbbfoheaa", sum := "5ff60dac6ee2da0930b276c010b71aecdc9bc1392c17a8c8cfc5f6f1a52f94bf", func := "watchfire/watchfirelaw03.RegexStar", spec := "regexStar", inPlace := ["internal/bytealg.IndexByteString", "internal/abi.NoEscape"], unfollowed := true, recurses := true, apart := false, narrowed := true }
def RegexStarUptoSaid : Prop := regexStarUptoRow.holds Try.pinned (OpenSpec.upto regexStarSpec)

/-- 'watchfirelaw03.RegexSets', WHERE WHAT IT READS IS OF BULK AT MOST 1048576: true; the input reads as it did. -/
def regexSetsUptoRow : OpenClaim := { program := "ytnidjfmbbfoheaa", sum := "5ff60dac6ee2da0930b276c010b71aecdc9bc1392c17a8c8cfc5f6f1a52f94bf", func := "watchfire/watchfirelaw03.RegexSets", spec := "regexSets", inPlace := ["internal/bytealg.IndexByteString", "internal/abi.NoEscape"], unfollowed := true, recurses := true, apart := false, narrowed := true }
def RegexSetsUptoSaid : Prop := regexSetsUptoRow.holds Try.pinned (OpenSpec.upto regexSetsSpec)

/-- 'watchfirelaw04.MatchNot', WHERE WHAT IT READS IS OF BULK AT MOST 1048576: true; the input reads as it did. -/
def matchNotUptoRow : OpenClaim := { program := "ytnidjfmbbfoheaa", sum := "5ff60dac6ee2da0930b276c010b71aecdc9bc1392c17a8c8cfc5f6f1a52f94bf", func := "watchfire/watchfirelaw04.MatchNot", spec := "matchNot", inPlace := ["internal/bytealg.IndexByteString"], unfollowed := true, recurses := true, apart := false, narrowed := true }
def MatchNotUptoSaid : Prop := matchNotUptoRow.holds Try.pinned (OpenSpec.upto matchNotSpec)

/-- 'watchfirelaw04.MatchMissing', WHERE WHAT IT READS IS OF BULK AT MOST 1048576: true; the input reads as it did. -/
def matchMissingUptoRow : OpenClaim := { program := "ytnidjfmbbfoheaa", sum := "5ff60dac6ee2da0930b276c010b71aecdc9bc1392c17a8c8cfc5f6f1a52f94bf", func := "watchfire/watchfirelaw04.MatchMissing", spec := "matchMissing", inPlace := ["internal/bytealg.IndexByteString"], unfollowed := true, recurses := true, apart := false, narrowed := true }
def MatchMissingUptoSaid : Prop := matchMissingUptoRow.holds Try.pinned (OpenSpec.upto matchMissingSpec)

/-- 'watchfirelaw06.InhibitSelf', WHERE WHAT IT READS IS OF BULK AT MOST 1048576: true; the input reads as it did. -/
def inhibitSelfUptoRow : OpenClaim := { program := "ytnidjfmbbfoheaa", sum := "5ff60dac6ee2da0930b276c010b71aecdc9bc1392c17a8c8cfc5f6f1a52f94bf", func := "watchfire/watchfirelaw06.InhibitSelf", spec := "inhibitSelf", inPlace := ["internal/bytealg.IndexByteString"], unfollowed := true, recurses := true, apart := false, narrowed := true }
def InhibitSelfUptoSaid : Prop := inhibitSelfUptoRow.holds Try.pinned (OpenSpec.upto inhibitSelfSpec)

/-- 'watchfirelaw06.InhibitEqual', WHERE WHAT IT READS IS OF BULK AT MOST 1048576: true; the input reads as it did. -/
def inhibitEqualUptoRow : OpenClaim := { program := "ytnidjfmbbfoheaa", sum := "5ff60dac6ee2da0930b276c010b71aecdc9bc1392c17a8c8cfc5f6f1a52f94bf", func := "watchfire/watchfirelaw06.InhibitEqual", spec := "inhibitEqual", inPlace := ["internal/bytealg.IndexByteString"], unfollowed := true, recurses := true, apart := false, narrowed := true }
def InhibitEqualUptoSaid : Prop := inhibitEqualUptoRow.holds Try.pinned (OpenSpec.upto inhibitEqualSpec)

/-- 'watchfirelaw04.MatchChecks', WHERE WHAT IT READS IS OF BULK AT MOST 1048576: true; the input reads as it did. -/
def matchChecksUptoRow : OpenClaim := { program := "ytnidjfmbbfoheaa", sum := "5ff60dac6ee2da0930b276c010b71aecdc9bc1392c17a8c8cfc5f6f1a52f94bf", func := "watchfire/watchfirelaw04.MatchChecks", spec := "matchChecks", inPlace := ["internal/bytealg.IndexByteString"], unfollowed := true, recurses := true, apart := false, narrowed := true }
def MatchChecksUptoSaid : Prop := matchChecksUptoRow.holds Try.pinned (OpenSpec.upto matchChecksSpec)

/-- 'watchfirelaw04.MatchSplits', WHERE WHAT IT READS IS OF BULK AT MOST 1048576: true; the input reads as it did. -/
def matchSplitsUptoRow : OpenClaim := { program := "ytnidjfmbbfoheaa", sum := "5ff60dac6ee2da0930b276c010b71aecdc9bc1392c17a8c8cfc5f6f1a52f94bf", func := "watchfire/watchfirelaw04.MatchSplits", spec := "matchSplits", inPlace := ["internal/bytealg.IndexByteString"], unfollowed := true, recurses := true, apart := false, narrowed := true }
def MatchSplitsUptoSaid : Prop := matchSplitsUptoRow.holds Try.pinned (OpenSpec.upto matchSplitsSpec)

/-- 'watchfirelaw06.InhibitMore', WHERE WHAT IT READS IS OF BULK AT MOST 1048576: true; the input reads as it did. -/
def inhibitMoreUptoRow : OpenClaim := { program := "ytnidjfmbbfoheaa", sum := "5ff60dac6ee2da0930b276c010b71aecdc9bc1392c17a8c8cfc5f6f1a52f94bf", func := "watchfire/watchfirelaw06.InhibitMore", spec := "inhibitMore", inPlace := ["internal/bytealg.IndexByteString"], unfollowed := true, recurses := true, apart := false, narrowed := true }
def InhibitMoreUptoSaid : Prop := inhibitMoreUptoRow.holds Try.pinned (OpenSpec.upto inhibitMoreSpec)

/-- 'watchfirelaw04.MatchTexts', WHERE WHAT IT READS IS OF BULK AT MOST 1048576: true; the input reads as it did. -/
def matchTextsUptoRow : OpenClaim := { program := "ytnidjfmbbfoheaa", sum := "5ff60dac6ee2da0930b276c010b71aecdc9bc1392c17a8c8cfc5f6f1a52f94bf", func := "watchfire/watchfirelaw04.MatchTexts", spec := "matchTexts", inPlace := ["internal/bytealg.IndexByteString"], unfollowed := true, recurses := true, apart := false, narrowed := true }
def MatchTextsUptoSaid : Prop := matchTextsUptoRow.holds Try.pinned (OpenSpec.upto matchTextsSpec)

/-- 'watchfirelaw04.MatchBack', WHERE WHAT IT READS IS OF BULK AT MOST 1048576: true; the input reads as it did. -/
def matchBackUptoRow : OpenClaim := { program := "ytnidjfmbbfoheaa", sum := "5ff60dac6ee2da0930b276c010b71aecdc9bc1392c17a8c8cfc5f6f1a52f94bf", func := "watchfire/watchfirelaw04.MatchBack", spec := "matchBack", inPlace := ["internal/bytealg.IndexByteString"], unfollowed := true, recurses := true, apart := false, narrowed := true }
def MatchBackUptoSaid : Prop := matchBackUptoRow.holds Try.pinned (OpenSpec.upto matchBackSpec)

/-- 'watchfirelaw05.RouteChecks', WHERE WHAT IT READS IS OF BULK AT MOST 1048576: true; the input reads as it did. -/
def routeChecksUptoRow : OpenClaim := { program := "ytnidjfmbbfoheaa", sum := "5ff60dac6ee2da0930b276c010b71aecdc9bc1392c17a8c8cfc5f6f1a52f94bf", func := "watchfire/watchfirelaw05.RouteChecks", spec := "routeChecks", inPlace := ["internal/bytealg.IndexByteString"], unfollowed := true, recurses := true, apart := false, narrowed := true }
def RouteChecksUptoSaid : Prop := routeChecksUptoRow.holds Try.pinned (OpenSpec.upto routeChecksSpec)

/-- 'watchfirelaw05.RouteSomewhere', WHERE WHAT IT READS IS OF BULK AT MOST 1048576: true; the input reads as it did. -/
def routeSomewhereUptoRow : OpenClaim := { program := "ytnidjfmbbfoheaa", sum := "5ff60dac6ee2da0930b276c010b71aecdc9bc1392c17a8c8cfc5f6f1a52f94bf", func := "watchfire/watchfirelaw05.RouteSomewhere", spec := "routeSomewhere", inPlace := ["internal/bytealg.IndexByteString"], unfollowed := true, recurses := true, apart := false, narrowed := true }
def RouteSomewhereUptoSaid : Prop := routeSomewhereUptoRow.holds Try.pinned (OpenSpec.upto routeSomewhereSpec)

/-- 'watchfirelaw05.RouteDeepest', WHERE WHAT IT READS IS OF BULK AT MOST 1048576: true; the input reads as it did. -/
def routeDeepestUptoRow : OpenClaim := { program := "ytnidjfmbbfoheaa", sum := "5ff60dac6ee2da0930b276c010b71aecdc9bc1392c17a8c8cfc5f6f1a52f94bf", func := "watchfire/watchfirelaw05.RouteDeepest", spec := "routeDeepest", inPlace := ["internal/bytealg.IndexByteString"], unfollowed := true, recurses := true, apart := false, narrowed := true }
def RouteDeepestUptoSaid : Prop := routeDeepestUptoRow.holds Try.pinned (OpenSpec.upto routeDeepestSpec)

/-- 'watchfirelaw05.RouteMore', WHERE WHAT IT READS IS OF BULK AT MOST 1048576: true; the input reads as it did. -/
def routeMoreUptoRow : OpenClaim := { program := "ytnidjfmbbfoheaa", sum := "5ff60dac6ee2da0930b276c010b71aecdc9bc1392c17a8c8cfc5f6f1a52f94bf", func := "watchfire/watchfirelaw05.RouteMore", spec := "routeMore", inPlace := ["internal/bytealg.IndexByteString"], unfollowed := true, recurses := true, apart := false, narrowed := true }
def RouteMoreUptoSaid : Prop := routeMoreUptoRow.holds Try.pinned (OpenSpec.upto routeMoreSpec)

/-- 'watchfirelaw05.RouteSames', WHERE WHAT IT READS IS OF BULK AT MOST 1048576: true; the input reads as it did. -/
def routeSamesUptoRow : OpenClaim := { program := "ytnidjfmbbfoheaa", sum := "5ff60dac6ee2da0930b276c010b71aecdc9bc1392c17a8c8cfc5f6f1a52f94bf", func := "watchfire/watchfirelaw05.RouteSames", spec := "routeSames", inPlace := ["internal/bytealg.IndexByteString"], unfollowed := true, recurses := true, apart := false, narrowed := true }
def RouteSamesUptoSaid : Prop := routeSamesUptoRow.holds Try.pinned (OpenSpec.upto routeSamesSpec)

end Rows
end Go.Proofs.Ytnidjfmbbfoheaa
