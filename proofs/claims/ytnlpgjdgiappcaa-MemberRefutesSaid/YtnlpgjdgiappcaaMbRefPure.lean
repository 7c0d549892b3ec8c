/- PLAIN: what is said of a node it refutes. -/
import Derived.Test.YtnlpgjdgiappcaaMbPure3
namespace Go.Proofs.Ytnlpgjdgiappcaa.Pl
set_option linter.unusedVariables false
set_option linter.unusedSimpArgs false

theorem refutes (z o : Int) (m : M) (hz0 : 0 ≤ z) (hz : z < 64) (hm : mayM m = true) (hn : m.n = z) (hs0 : 0 ≤ m.s) (hi : m.i ≠ 1073741824) (hzo : z ≠ o) (ho : 0 ≤ o) :
    ∃ S, heard z (newT z) m z.toNat = some S ∧ S.s = 0 ∧ (∀ x, hear z (newT z) m = some x → x = S) ∧
      heard o (heard o (newT o) m) S z.toNat = some S ∧ above m S = false ∧ S.n = z ∧ 0 ≤ S.i ∧ S.i ≤ 1073741824 := by
  have hmay := mayM_iff.1 hm
  have e1 : newT z z.toNat = some ⟨z, 0, 0⟩ := by simp [newT]
  have e2 : newT o z.toNat = none := by
    unfold newT; rw [if_neg (by omega)]
  have hmn : m.n.toNat = z.toNat := by rw [hn]
  have hU : heard o (newT o) m z.toNat = some m := by
    have hb : bump o m = m := by simp [bump, hn, hzo]
    simp [heard, hear, hm, hmn, e2, hb, put]
  by_cases ha : above m ⟨z, 0, 0⟩ = true
  · by_cases hs : m.s = 0
    · -- alive, of a higher incarnation
      have hb : bump z m = m := by simp [bump, hs]
      have hT : hear z (newT z) m = some m := by simp [hear, hm, hmn, e1, ha, hb]
      refine ⟨m, by simp [heard, hT, put, hmn], hs, fun x hx => ?_, ?_, above_irrefl m, hn, hmay.2.2.1, hmay.2.2.2⟩
      · rw [hT] at hx; injection hx with hx; exact hx.symm
      · have : hear o (heard o (newT o) m) m = none := hear_old (by rw [hmn]; exact hU)
        generalize heard o (newT o) m = F at *
        simp [heard, this, hU]
    · have hb : bump z m = ⟨m.n, 0, m.i + 1⟩ := by
        unfold bump; rw [if_pos ⟨hn, hs, by omega⟩]
      have hT : hear z (newT z) m = some ⟨m.n, 0, m.i + 1⟩ := by simp [hear, hm, hmn, e1, ha, hb]
      have hab : above ⟨m.n, 0, m.i + 1⟩ m = true := by
        unfold above; rw [if_neg (by simp only; omega)]; simp only [decide_eq_true_eq]; omega
      have hab2 : above m ⟨m.n, 0, m.i + 1⟩ = false := above_asymm hab
      have hmay2 : mayM ⟨m.n, 0, m.i + 1⟩ = true := mayM_iff.2 ⟨by simp only; omega, by simp only; omega, by simp only; omega, by simp only; omega⟩
      have hbo : bump o ⟨m.n, 0, m.i + 1⟩ = ⟨m.n, 0, m.i + 1⟩ := by simp [bump]
      refine ⟨⟨m.n, 0, m.i + 1⟩, by simp [heard, hT, put, hmn], rfl, fun x hx => ?_, ?_, hab2, hn, by simp only; omega, by simp only; omega⟩
      · rw [hT] at hx; injection hx with hx; exact hx.symm
      · have : hear o (heard o (newT o) m) ⟨m.n, 0, m.i + 1⟩ = some ⟨m.n, 0, m.i + 1⟩ := by
          unfold hear
          rw [if_pos hmay2]
          simp only [hmn, hU, hab, if_true, hbo]
        generalize heard o (newT o) m = F at *
        simp [heard, this, put, hmn]
  · have ha' : above m ⟨z, 0, 0⟩ = false := by simpa using ha
    have hT : hear z (newT z) m = none := by simp [hear, hm, hmn, e1, ha']
    have hm0 : m = ⟨z, 0, 0⟩ := by
      obtain ⟨n, s, i⟩ := m
      simp only at *
      unfold above at ha'
      simp only at ha'
      by_cases h0 : i = 0
      · rw [if_pos h0] at ha'; simp at ha'; rw [hn, h0, show s = 0 by omega]
      · rw [if_neg h0] at ha'; simp at ha'; omega
    refine ⟨⟨z, 0, 0⟩, by simp [heard, hT, e1], rfl, fun x hx => ?_, ?_, ha', rfl, by simp, by simp⟩
    · rw [hT] at hx; cases hx
    · rw [← hm0]
      have : hear o (heard o (newT o) m) m = none := hear_old (by rw [hmn]; exact hU)
      generalize heard o (newT o) m = F at *
      simp [heard, this, hU]

end Go.Proofs.Ytnlpgjdgiappcaa.Pl
