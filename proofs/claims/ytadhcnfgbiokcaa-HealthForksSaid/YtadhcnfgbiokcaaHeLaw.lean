/- WORDS: what Suspect answers, case for case. -/
import Derived.Test.YtadhcnfgbiokcaaHeAwake
namespace Go.Proofs.Ytadhcnfgbiokcaa
set_option linter.unusedVariables false
set_option linter.unusedSimpArgs false
open Go.RowKit
theorem at_at (h : Hs) (k : Nat) (a b : Option Su) : (h.at_ k a).at_ k b = h.at_ k b := by
  unfold Hs.at_
  congr 1
  funext j
  split <;> simp_all
section
variable {h : Hs} {n st i fr now : Int} {x : Su}
theorem susp_new_eq (hm : susMay h n st i fr now) (hs : h.s n.toNat = none ∨ ∃ x, h.s n.toNat = some x ∧ x.i < i) : susp h n st i fr now = (true, h.at_ n.toNat (some ⟨i, now, 2 ^ fr.toNat⟩)) := by
  unfold susp
  rw [if_pos hm]
  rcases hs with hs | ⟨x, hs, h1⟩
  · rw [hs]
  · rw [hs]
    simp only
    rw [if_pos h1]
theorem susp_no_eq (hm : susMay h n st i fr now) (hs : h.s n.toNat = some x) (h1 : i ≤ x.i) (h2 : i < x.i ∨ x.w / 2 ^ fr.toNat % 2 = 1 ∨ h.cf < (He.ones x.w : Int)) : susp h n st i fr now = (false, h) := by
  unfold susp
  rw [if_pos hm, hs]
  simp only
  rw [if_neg (by omega), if_pos h2]
theorem susp_more_eq (hm : susMay h n st i fr now) (hs : h.s n.toNat = some x) (h1 : x.i = i) (h2 : x.w / 2 ^ fr.toNat % 2 = 0) (h3 : (He.ones x.w : Int) ≤ h.cf) : susp h n st i fr now = (true, h.at_ n.toNat (some ⟨x.i, x.f, x.w + 2 ^ fr.toNat⟩)) := by
  unfold susp
  rw [if_pos hm, hs]
  simp only
  rw [if_neg (by omega), if_neg (by omega)]
end
end Go.Proofs.Ytadhcnfgbiokcaa
