/- WALKS: civil's and the document's floor, Date. -/
import Derived.Test.YtkmkeimofhpkeaaDoorWalk1
namespace Go.Proofs.YtkmkeimofhpkeaaDoor
set_option linter.unusedVariables false
set_option linter.unusedSimpArgs false
open Go.RowKit

theorem num_range {y m d : Int} (h : Cv.val y m d) : -719162 ≤ Cv.num y m d ∧ Cv.num y m d ≤ 2932896 := by
  obtain ⟨a, b, -, -⟩ := Cv.val_in h
  obtain ⟨r1, r2, -⟩ := Cv.val_range h
  have hl := Cv.beg_mono (by omega : (1 : Int) ≤ 1) r1 (by omega)
  have hu := Cv.beg_mono (by omega : 1 ≤ y + 1) (by omega : y + 1 ≤ 10000) (by omega)
  have he : Cv.beg 1 = -719162 := by decide
  have he2 : Cv.beg 10000 = 2932897 := by decide
  omega

theorem clock_any (a : Int) (w : World) : Calls Tryd.prog 30 #[.int .i64 a] w fun e w' => e = .returned (.bool (decide (-1440 ≤ a) && decide (a ≤ 1440))) ∧ Below w.heap.size w w' := by
  go_enter Tryd.func30, Tryd.ntmps30
  by_cases h1 : -1440 ≤ a <;> by_cases h2 : a ≤ 1440
  all_goals
    go_wp2
    go_ret
    exact ⟨ret_bool (by simp [h1, h2]), Below.refl _ _⟩

def floorVal (a b : Int) : Value := .tuple #[.int .i64 (a / b), .int .i64 (a % b)]

theorem t_neg86400 {a : Int} (h : a < 0) : ∃ q r, a.tdiv 86400 = q ∧ a.tmod 86400 = r ∧ 86400 * q + r = a ∧ r ≤ 0 ∧ -86400 < r := by
  have e := Int.mul_tdiv_add_tmod a 86400
  have h1 : 0 ≤ (-a).tmod 86400 := Int.tmod_nonneg 86400 (by omega)
  rw [Int.neg_tmod] at h1
  have h2 : -86400 < a.tmod 86400 := by have := Int.lt_tmod_of_pos a (show (0 : Int) < 86400 by decide); omega
  exact ⟨_, _, rfl, rfl, e, by omega, h2⟩
theorem t_neg7 {a : Int} (h : a < 0) : ∃ q r, a.tdiv 7 = q ∧ a.tmod 7 = r ∧ 7 * q + r = a ∧ r ≤ 0 ∧ -7 < r := by
  have e := Int.mul_tdiv_add_tmod a 7
  have h1 : 0 ≤ (-a).tmod 7 := Int.tmod_nonneg 7 (by omega)
  rw [Int.neg_tmod] at h1
  have h2 : -7 < a.tmod 7 := by have := Int.lt_tmod_of_pos a (show (0 : Int) < 7 by decide); omega
  exact ⟨_, _, rfl, rfl, e, by omega, h2⟩

set_option maxHeartbeats 1000000 in
theorem floor_any86400 (a : Int) (w : World) (h1 : -4611686018427387904 ≤ a) (h2 : a ≤ 4611686018427387904) : Calls Tryd.prog 31 #[.int .i64 a, .int .i64 86400] w fun e w' => e = .returned (floorVal a 86400) ∧ Below w.heap.size w w' := by
  go_enter Tryd.func31, Tryd.ntmps31
  by_cases h : 0 ≤ a
  · have h0 : ¬ a % 86400 < 0 := by omega
    go_wp2
    go_quiet (fail)
    go_wp2
    refine bodyPost_ret (v := floorVal a _) (by simp [results, Tryd.results31, go_sem, floorVal]) rfl ⟨rfl, below_drewN (Below.refl _ _) nq⟩
  · obtain ⟨q, r, hq, hr, e1, e2, e3⟩ := t_neg86400 (a := a) (by omega)
    by_cases hr0 : r < 0
    · go_wp2
      go_quiet (fail)
      go_wp2
      refine bodyPost_ret (v := floorVal a _) (by simp [results, Tryd.results31, go_sem, floorVal]; omega) rfl ⟨rfl, below_drewN (Below.refl _ _) nq⟩
    · go_wp2
      go_quiet (fail)
      go_wp2
      refine bodyPost_ret (v := floorVal a _) (by simp [results, Tryd.results31, go_sem, floorVal]; omega) rfl ⟨rfl, below_drewN (Below.refl _ _) nq⟩

set_option maxHeartbeats 1000000 in
theorem floor_any7 (a : Int) (w : World) (h1 : -4611686018427387904 ≤ a) (h2 : a ≤ 4611686018427387904) : Calls Tryd.prog 31 #[.int .i64 a, .int .i64 7] w fun e w' => e = .returned (floorVal a 7) ∧ Below w.heap.size w w' := by
  go_enter Tryd.func31, Tryd.ntmps31
  by_cases h : 0 ≤ a
  · have h0 : ¬ a % 7 < 0 := by omega
    go_wp2
    go_quiet (fail)
    go_wp2
    refine bodyPost_ret (v := floorVal a _) (by simp [results, Tryd.results31, go_sem, floorVal]) rfl ⟨rfl, below_drewN (Below.refl _ _) nq⟩
  · obtain ⟨q, r, hq, hr, e1, e2, e3⟩ := t_neg7 (a := a) (by omega)
    by_cases hr0 : r < 0
    · go_wp2
      go_quiet (fail)
      go_wp2
      refine bodyPost_ret (v := floorVal a _) (by simp [results, Tryd.results31, go_sem, floorVal]; omega) rfl ⟨rfl, below_drewN (Below.refl _ _) nq⟩
    · go_wp2
      go_quiet (fail)
      go_wp2
      refine bodyPost_ret (v := floorVal a _) (by simp [results, Tryd.results31, go_sem, floorVal]; omega) rfl ⟨rfl, below_drewN (Below.refl _ _) nq⟩

set_option maxHeartbeats 1000000 in
theorem rfloor_any86400 (a : Int) (w : World) (h1 : -4611686018427387904 ≤ a) (h2 : a ≤ 4611686018427387904) : Calls Tryd.prog 32 #[.int .i64 a, .int .i64 86400] w fun e w' => e = .returned (floorVal a 86400) ∧ Below w.heap.size w w' := by
  go_enter Tryd.func32, Tryd.ntmps32
  by_cases h : 0 ≤ a
  · have h0 : ¬ a % 86400 < 0 := by omega
    go_wp2
    go_quiet (fail)
    go_wp2
    refine bodyPost_ret (v := floorVal a _) (by simp [results, Tryd.results32, go_sem, floorVal]) rfl ⟨rfl, below_drewN (Below.refl _ _) nq⟩
  · obtain ⟨q, r, hq, hr, e1, e2, e3⟩ := t_neg86400 (a := a) (by omega)
    by_cases hr0 : r < 0
    · go_wp2
      go_quiet (fail)
      go_wp2
      refine bodyPost_ret (v := floorVal a _) (by simp [results, Tryd.results32, go_sem, floorVal]; omega) rfl ⟨rfl, below_drewN (Below.refl _ _) nq⟩
    · go_wp2
      go_quiet (fail)
      go_wp2
      refine bodyPost_ret (v := floorVal a _) (by simp [results, Tryd.results32, go_sem, floorVal]; omega) rfl ⟨rfl, below_drewN (Below.refl _ _) nq⟩

set_option maxHeartbeats 1000000 in
theorem rfloor_any7 (a : Int) (w : World) (h1 : -4611686018427387904 ≤ a) (h2 : a ≤ 4611686018427387904) : Calls Tryd.prog 32 #[.int .i64 a, .int .i64 7] w fun e w' => e = .returned (floorVal a 7) ∧ Below w.heap.size w w' := by
  go_enter Tryd.func32, Tryd.ntmps32
  by_cases h : 0 ≤ a
  · have h0 : ¬ a % 7 < 0 := by omega
    go_wp2
    go_quiet (fail)
    go_wp2
    refine bodyPost_ret (v := floorVal a _) (by simp [results, Tryd.results32, go_sem, floorVal]) rfl ⟨rfl, below_drewN (Below.refl _ _) nq⟩
  · obtain ⟨q, r, hq, hr, e1, e2, e3⟩ := t_neg7 (a := a) (by omega)
    by_cases hr0 : r < 0
    · go_wp2
      go_quiet (fail)
      go_wp2
      refine bodyPost_ret (v := floorVal a _) (by simp [results, Tryd.results32, go_sem, floorVal]; omega) rfl ⟨rfl, below_drewN (Below.refl _ _) nq⟩
    · go_wp2
      go_quiet (fail)
      go_wp2
      refine bodyPost_ret (v := floorVal a _) (by simp [results, Tryd.results32, go_sem, floorVal]; omega) rfl ⟨rfl, below_drewN (Below.refl _ _) nq⟩

end Go.Proofs.YtkmkeimofhpkeaaDoor
