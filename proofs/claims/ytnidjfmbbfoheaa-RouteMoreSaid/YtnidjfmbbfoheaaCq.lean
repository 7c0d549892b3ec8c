/- COMMON WORDS: Cr's 'wp_region_ext' from the region's own world (its walk by the kit's cheap quiet step, guards read by looking). -/
import Derived.Test.YtnidjfmbbfoheaaCr
import Derived.BigQuiet
namespace Go.Proofs.Ytnidjfmbbfoheaa
set_option linter.unusedVariables false
set_option linter.unusedSimpArgs false
open Go.RowKit Go.BigFrame

theorem wp_region_exts {P : Program} {w : World} {id : Nat} {Q : Exit → Act → World → Prop} {a : Act} {l : List Oper} (hm : P.follows .mixedOrders = true) (hB : Region.lexB .any l.toArray = true)
    (h : wpQuiet P l.toArray (fun w' => ∃ x : Ext w.heap.size w, w' = x.W) (fun a' => ∀ w', (∃ x : Ext w.heap.size w, w' = x.W) → Q .normal a' w') l a) : (Code.region id l.toArray true).wp P Q a w :=
  wp_region_ext _ hm hB h

end Go.Proofs.Ytnidjfmbbfoheaa
