/- COMMON WORDS: a region of open order whose operations read what was there, or call what leaves it as it was: one walk in the text's order. -/
import Derived.Test.YtnidjfmbbfoheaaCw
namespace Go.Proofs.Ytnidjfmbbfoheaa
set_option linter.unusedVariables false
set_option linter.unusedSimpArgs false
open Go.RowKit

/-- A world that goes on from w: below block B it is as w. -/
structure Ext (B : Nat) (w : World) where
  W : World
  h : Below B w W

instance {B : Nat} {w : World} : Nonempty (Ext B w) := ⟨⟨w, Below.refl B w⟩⟩

section
variable {P : Program} {B : Nat} {w : World}
theorem wp_region_ext (B : Nat) {id : Nat} {Q : Exit → Act → World → Prop} {a : Act} {l : List Oper} (hm : P.follows .mixedOrders = true) (hB : Region.lexB .any l.toArray = true)
    (h : wpQuiet P l.toArray (fun w' => ∃ x : Ext B w, w' = x.W) (fun a' => ∀ w', (∃ x : Ext B w, w' = x.W) → Q .normal a' w') l a) : (Code.region id l.toArray true).wp P Q a w :=
  wp_region_quiet (C := fun w' => ∃ x : Ext B w, w' = x.W) hm hB ⟨⟨_, (Below.refl B w).drew⟩, rfl⟩ (by simpa using h)

theorem calls_ext {x : Ext B w} (hB : B ≤ w.heap.size) {f : FuncId} {args : Array Value} {v : Value} (h : Calls P f args x.W fun e w'' => e = .returned v ∧ Below x.W.heap.size x.W w'') :
    Calls P f args x.W fun e w'' => e = .returned v ∧ ∃ y : Ext B w, w'' = y.W :=
  h.mono fun _ w'' ⟨he, hb⟩ => ⟨he, ⟨w'', below_then x.h (Nat.le_trans hB x.h.size) hb⟩, rfl⟩

theorem Ext.cell {x : Ext B w} {b o : Nat} {v : Value} (hb : b < B) (h : w.cell? ⟨b, o, none⟩ = some v) : x.W.cell? ⟨b, o, none⟩ = some v := (x.h.cell (p := ⟨b, o, none⟩) hb).trans h
theorem Ext.blk {x : Ext B w} {g : Nat} {t : TypeId} {cs : Array Value} (h : Blk w g t cs) (hg : g < B) : Blk x.W g t cs := h.below x.h hg
end

end Go.Proofs.Ytnidjfmbbfoheaa
