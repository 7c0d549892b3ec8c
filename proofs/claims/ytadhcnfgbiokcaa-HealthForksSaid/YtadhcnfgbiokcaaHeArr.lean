/- WORDS: the array of suspicions as a value: its load out of a health, its elements. -/
import Derived.Test.YtadhcnfgbiokcaaHeWalk3
import Derived.Deep.MidRow
namespace Go.Proofs.Ytadhcnfgbiokcaa
set_option linter.unusedVariables false
set_option linter.unusedSimpArgs false
open Go.RowKit
def susCells (h : Hs) : List Value := (List.range 64).flatMap (fun k => su (h.s k))
theorem susCells_length (h : Hs) : (susCells h).length = 256 := by
  unfold susCells
  rw [flat_length _ (fun k => su_length (h.s k))]
theorem susCells_get (h : Hs) (k j : Nat) (hk : k < 64) (hj : j < 4) : (susCells h)[k * 4 + j]? = (su (h.s k))[j]? :=
  flat_get _ (fun k => su_length (h.s k)) 64 k j hk hj
theorem susCells_part (h : Hs) (k : Nat) (hk : k < 64) : (susCells h).toArray.extract (k * 4) (k * 4 + 4) = (su (h.s k)).toArray := by
  apply Array.ext_getElem?
  intro i
  have hl := su_length (h.s k)
  rw [Array.getElem?_extract]
  have hm : min (k * 4 + 4) (susCells h).toArray.size = k * 4 + 4 := by
    simp only [List.size_toArray, susCells_length]
    omega
  rw [hm]
  by_cases hi : i < 4
  · rw [if_pos (by omega)]
    simp only [List.getElem?_toArray]
    exact susCells_get h k i hk hi
  · rw [if_neg (by omega)]
    simp only [List.getElem?_toArray]
    rw [List.getElem?_eq_none (by omega)]
theorem IsH.row {w : World} {g : Nat} {h : Hs} (H : IsH w g h) : w.rangeAt g 5 (susCells h) := by
  intro j v hv
  have hj : j < 256 := by
    have := (List.getElem?_eq_some_iff.1 hv).1
    rwa [susCells_length] at this
  have hc := H.cell (j / 4) (j % 4) (by omega) (by omega)
  rw [← susCells_get h (j / 4) (j % 4) (by omega) (by omega), show 5 + j / 4 * 4 + j % 4 = 5 + j by omega, show j / 4 * 4 + j % 4 = j by omega, hv] at hc
  exact hc
theorem index67 (A : Array Value) (j : Int) (h0 : 0 ≤ j) (h1 : j < 64) (w : World) : (Instr.index 67 (.agg A) (.int .i64 j)).run Try.prog w = .ok (.agg (A.extract (j.toNat * 4) (j.toNat * 4 + 4))) w := by
  have hu : Try.prog.underlying 67 = some (.array 64 66) := by kernel_rfl
  have hs : ∀ w, (sizeOf 66).run Try.prog w = .ok 4 w := fun w => by kernel_rfl
  have ha : ∀ w, (isAgg 66).run Try.prog w = .ok true w := fun w => by kernel_rfl
  simp [Instr.index, asIntOf, Sem.run_bind, run_underlying hu, part, hs, ha, h0, h1, Result.andThen]
theorem index67_su (h : Hs) (j : Int) (h0 : 0 ≤ j) (h1 : j < 64) (w : World) : (Instr.index 67 (.agg (susCells h).toArray) (.int .i64 j)).run Try.prog w = .ok (.agg (su (h.s j.toNat)).toArray) w := by
  rw [index67 _ _ h0 h1, susCells_part h _ (by omega)]
theorem und67 : Try.prog.underlying 67 = some (.array 64 66) := by kernel_rfl
theorem siz67 : (Try.prog.info? 67).map (·.size) = some 256 := by kernel_rfl
end Go.Proofs.Ytadhcnfgbiokcaa
