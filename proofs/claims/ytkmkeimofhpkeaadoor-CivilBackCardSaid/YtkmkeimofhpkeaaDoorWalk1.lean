/- WALKS: civil's and the document's Leap, Long, Days. -/
import Derived.Test.YtkmkeimofhpkeaaDoorCw
import Derived.Test.YtkmkeimofhpkeaaDoorPure
import Derived.Test.YtkmkeimofhpkeaaDoorChecked
namespace Go.Proofs.YtkmkeimofhpkeaaDoor
set_option linter.unusedVariables false
set_option linter.unusedSimpArgs false
open Go.RowKit

/-- A whole number of the machine. -/
def I64 (n : Int) : Prop := -9223372036854775808 ≤ n ∧ n ≤ 9223372036854775807

theorem leap_bool {y : Int} {b : Bool} (h : b = true ↔ 1 ≤ y ∧ y ≤ 9999 ∧ (y % 4 = 0 ∧ ¬ y % 100 = 0 ∨ y % 400 = 0)) : Ending.returned (.bool b) = .returned (.bool (Cv.leapB y)) :=
  ret_bool (Bool.eq_iff_iff.2 (h.trans (Cv.leap_iff y).symm))

theorem is_any (y : Int) (w : World) : Calls Tryd.prog 28 #[.int .i64 y] w fun e w' => e = .returned (.bool (decide (1 ≤ y) && decide (y ≤ 9999))) ∧ Below w.heap.size w w' := by
  go_enter Tryd.func28, Tryd.ntmps28
  by_cases h1 : 1 ≤ y <;> by_cases h2 : y ≤ 9999
  all_goals
    go_wp2
    go_ret
    exact ⟨ret_bool (by simp [h1, h2]), Below.refl _ _⟩

theorem leap_any (y : Int) (w : World) : Calls Tryd.prog 12 #[.int .i64 y] w fun e w' => e = .returned (.bool (Cv.leapB y)) ∧ Below w.heap.size w w' := by
  go_enter Tryd.func12, Tryd.ntmps12
  go_wp2_with fail
  refine (is_any y _).mono ?_
  rintro e w1 ⟨rfl, hb⟩
  have HB := Lib.hid hb
  clear hb
  by_cases h : 1 ≤ y ∧ y ≤ 9999
  · rw [show (decide (1 ≤ y) && decide (y ≤ 9999)) = true by simp [h.1, h.2]]
    have h1 := h.1
    have h2 := h.2
    go_wp2
    all_goals
      go_ret
      refine ⟨leap_bool ?_, HB.out⟩
      simp only [beq_iff_eq, bne_iff_ne, true_iff, Bool.false_eq_true, false_iff]
      omega
  · rw [show (decide (1 ≤ y) && decide (y ≤ 9999)) = false by simp; omega]
    go_wp2
    all_goals
      go_ret
      refine ⟨leap_bool ?_, HB.out⟩
      simp only [Bool.false_eq_true, false_iff]
      omega

theorem rleap_any (y : Int) (w : World) : Calls Tryd.prog 13 #[.int .i64 y] w fun e w' => e = .returned (.bool (Cv.leapB y)) ∧ Below w.heap.size w w' := by
  go_enter Tryd.func13, Tryd.ntmps13
  by_cases h1 : 1 ≤ y <;> by_cases h2 : y ≤ 9999
  all_goals
    go_wp2
    all_goals
      go_ret
      refine ⟨leap_bool ?_, Below.refl _ _⟩
      simp only [beq_iff_eq, bne_iff_ne, true_iff, Bool.false_eq_true, false_iff]
      omega

theorem ylong_any (y : Int) (w : World) : Calls Tryd.prog 29 #[.int .i64 y] w fun e w' => e = .returned (.int .i64 (Cv.yl y)) ∧ Below w.heap.size w w' := by
  go_enter Tryd.func29, Tryd.ntmps29
  go_wp2_with fail
  refine (rleap_any y _).mono ?_
  rintro e w1 ⟨rfl, hb⟩
  have HB := Lib.hid hb
  clear hb
  cases h : Cv.leapB y
  all_goals
    go_wp2
    go_ret
    exact ⟨by simp [Cv.yl, h], HB.out⟩

/-- The table 'ahead' is as the program's text lays it. -/
def AH (w : World) : Prop := 0 < w.heap.size ∧ ∀ k : Nat, k < 14 → w.cell? ⟨0, k, none⟩ = some (.int .i64 ([0, 0, 31, 59, 90, 120, 151, 181, 212, 243, 273, 304, 334, 365].getD k 0))
theorem AH.below {w w' : World} (h : AH w) (hb : Below w.heap.size w w') : AH w' := ⟨Nat.lt_of_lt_of_le h.1 hb.size, fun k hk => (hb.cell (p := ⟨0, k, none⟩) h.1).trans (h.2 k hk)⟩

set_option maxHeartbeats 1000000 in
theorem long_any (y m : Int) (w : World) (hA : AH w) : Calls Tryd.prog 14 #[.int .i64 y, .int .i64 m] w fun e w' => e = .returned (.int .i64 (Cv.longB y m)) ∧ Below w.heap.size w w' := by
  go_enter Tryd.func14, Tryd.ntmps14
  go_wp2_with fail
  refine (is_any y _).mono ?_
  rintro e w1 ⟨rfl, hb⟩
  have hA1 := hA.below hb
  have HB := Lib.hid hb
  clear hb
  by_cases h : 1 ≤ y ∧ y ≤ 9999
  · rw [show (decide (1 ≤ y) && decide (y ≤ 9999)) = true by simp [h.1, h.2]]
    by_cases h3 : 1 ≤ m ∧ m ≤ 12
    · have a1 := hA1.2 1 (by omega)
      have a2 := hA1.2 2 (by omega)
      have a3 := hA1.2 3 (by omega)
      have a4 := hA1.2 4 (by omega)
      have a5 := hA1.2 5 (by omega)
      have a6 := hA1.2 6 (by omega)
      have a7 := hA1.2 7 (by omega)
      have a8 := hA1.2 8 (by omega)
      have a9 := hA1.2 9 (by omega)
      have a10 := hA1.2 10 (by omega)
      have a11 := hA1.2 11 (by omega)
      have a12 := hA1.2 12 (by omega)
      have a13 := hA1.2 13 (by omega)
      simp only [List.getD_cons_zero, List.getD_cons_succ] at a1 a2 a3 a4 a5 a6 a7 a8 a9 a10 a11 a12 a13
      have hm : m = 1 ∨ m = 2 ∨ m = 3 ∨ m = 4 ∨ m = 5 ∨ m = 6 ∨ m = 7 ∨ m = 8 ∨ m = 9 ∨ m = 10 ∨ m = 11 ∨ m = 12 := by omega
      clear hA hA1
      have hlb : Cv.longB y m = Cv.cum y (m + 1) - Cv.cum y m := by unfold Cv.longB; rw [if_pos ⟨h.1, h.2, h3.1, h3.2⟩]
      rcases hm with rfl | rfl | rfl | rfl | rfl | rfl | rfl | rfl | rfl | rfl | rfl | rfl
      case inr.inl =>
        go_wp2
        go_quiet (fail)
        go_wp2_with fail
        refine (leap_any y _).mono ?_
        rintro e w2 ⟨rfl, hb2⟩
        have HB2 := Lib.hid (below_then (below_drewN HB.out nq) HB.out.size hb2)
        clear hb2
        cases hl : Cv.leapB y
        all_goals
          go_wp2
          go_ret
          exact ⟨by rw [hlb]; simp [Cv.cum, Cv.cumT, hl], HB2.out⟩
      all_goals
        go_wp2
        go_quiet (fail)
        go_wp2
        go_ret
        exact ⟨by rw [hlb]; by_cases hl : Cv.leapB y = true <;> simp [Cv.cum, Cv.cumT, hl], below_drewN HB.out nq⟩
    · have hlb : Cv.longB y m = 0 := by unfold Cv.longB; rw [if_neg (fun e => h3 ⟨e.2.2.1, e.2.2.2⟩)]
      by_cases hm : m < 1
      · go_wp2
        go_ret
        exact ⟨by first | (rw [hlb]; rfl) | rfl, HB.out⟩
      · have hm2 : 12 < m := by omega
        go_wp2
        go_ret
        exact ⟨by first | (rw [hlb]; rfl) | rfl, HB.out⟩
  · rw [show (decide (1 ≤ y) && decide (y ≤ 9999)) = false by simp; omega]
    have hlb : Cv.longB y m = 0 := by unfold Cv.longB; rw [if_neg (fun e => h ⟨e.1, e.2.1⟩)]
    go_wp2
    go_ret
    exact ⟨by first | (rw [hlb]; rfl) | rfl, HB.out⟩

set_option maxHeartbeats 1000000 in
theorem rlong_any (y m : Int) (w : World) : Calls Tryd.prog 15 #[.int .i64 y, .int .i64 m] w fun e w' => e = .returned (.int .i64 (Cv.longB y m)) ∧ Below w.heap.size w w' := by
  go_enter Tryd.func15, Tryd.ntmps15
  by_cases h : 1 ≤ y ∧ y ≤ 9999
  · have g1 := h.1
    have g2 := h.2
    by_cases h3 : 1 ≤ m ∧ m ≤ 12
    · have hlb : Cv.longB y m = Cv.cum y (m + 1) - Cv.cum y m := by unfold Cv.longB; rw [if_pos ⟨h.1, h.2, h3.1, h3.2⟩]
      have hm : m = 1 ∨ m = 2 ∨ m = 3 ∨ m = 4 ∨ m = 5 ∨ m = 6 ∨ m = 7 ∨ m = 8 ∨ m = 9 ∨ m = 10 ∨ m = 11 ∨ m = 12 := by omega
      rcases hm with rfl | rfl | rfl | rfl | rfl | rfl | rfl | rfl | rfl | rfl | rfl | rfl
      case inr.inl =>
        go_wp2_with fail
        refine (rleap_any y _).mono ?_
        rintro e w2 ⟨rfl, hb2⟩
        have HB2 := Lib.hid hb2
        clear hb2
        cases hl : Cv.leapB y
        all_goals
          go_wp2
          go_ret
          exact ⟨by rw [hlb]; simp [Cv.cum, Cv.cumT, hl], HB2.out⟩
      all_goals
        go_wp2
        go_ret
        exact ⟨by rw [hlb]; by_cases hl : Cv.leapB y = true <;> simp [Cv.cum, Cv.cumT, hl], Below.refl _ _⟩
    · have hlb : Cv.longB y m = 0 := by unfold Cv.longB; rw [if_neg (fun e => h3 ⟨e.2.2.1, e.2.2.2⟩)]
      by_cases hm : m < 1
      · go_wp2
        go_ret
        exact ⟨by first | (rw [hlb]; rfl) | rfl, Below.refl _ _⟩
      · have hm2 : 12 < m := by omega
        go_wp2
        go_ret
        exact ⟨by first | (rw [hlb]; rfl) | rfl, Below.refl _ _⟩
  · have hlb : Cv.longB y m = 0 := by unfold Cv.longB; rw [if_neg (fun e => h ⟨e.1, e.2.1⟩)]
    by_cases hy : y < 1
    · go_wp2
      go_ret
      exact ⟨by first | (rw [hlb]; rfl) | rfl, Below.refl _ _⟩
    · have hy2 : 9999 < y := by omega
      go_wp2
      go_ret
      exact ⟨by first | (rw [hlb]; rfl) | rfl, Below.refl _ _⟩

set_option maxHeartbeats 1000000 in
theorem begins_any (y : Int) (w : World) (h1 : 1 ≤ y) (h2 : y ≤ 10000) : Calls Tryd.prog 27 #[.int .i64 y] w fun e w' => e = .returned (.int .i64 (Cv.beg y)) ∧ Below w.heap.size w w' := by
  go_enter Tryd.func27, Tryd.ntmps27
  go_wp2
  go_loopw [3, 4] (fun n j wr => ∃ k : Int, 1970 ≤ k ∧ (k ≤ y ∨ k = 1970) ∧ j = .int .i64 k ∧ n = .int .i64 (Cv.beg k) ∧ Below w.heap.size w wr) (fun _ j _ => (y - intOf j).toNat)
  case atStart => exact ⟨1970, by omega, .inr rfl, rfl, by rw [Cv.beg_1970], Below.refl _ _⟩
  case round =>
    obtain ⟨k, k0, k1, rfl, rfl, hbw⟩ := hrel
    have HW := Lib.hid hbw
    clear hbw
    by_cases hlt : k < y
    · have hs := Cv.beg_step (by omega : 1 ≤ k) (by omega)
      have hp := Cv.yl_pos k
      have hm := Cv.beg_mono (by omega : 1 ≤ k + 1) (by omega : k + 1 ≤ 10000) (by omega)
      have hz := Cv.beg_mono (by omega : (1 : Int) ≤ 1970) k0 (by omega)
      have he : Cv.beg 10000 = 2932897 := by decide
      rw [Cv.beg_1970] at hz
      go_wp2_with fail
      refine (ylong_any k _).mono ?_
      rintro e w1 ⟨rfl, hb1⟩
      have H1 := Lib.hid (below_then HW.out HW.out.size hb1)
      clear hb1
      go_wp2
      go_roundw
      case rel => exact ⟨k + 1, by omega, by omega, by go_num, by rw [hs], H1.out⟩
      case measure => simp [intOf]; omega
    · go_wp2
      go_loopw [3, 5] (fun n j wr => ∃ q : Int, q ≤ 1969 ∧ (y ≤ q + 1 ∨ q = 1969) ∧ 0 ≤ q ∧ j = .int .i64 q ∧ n = .int .i64 (if y < 1970 then Cv.beg (q + 1) else Cv.beg y) ∧ Below w.heap.size w wr) (fun _ j _ => (intOf j - y + 1).toNat)
      case atStart =>
        refine ⟨1969, by omega, .inr rfl, by omega, rfl, ?_, HW.out⟩
        split
        · rw [show k = 1970 by omega]; rfl
        · rw [show k = y by omega]
      case round =>
        obtain ⟨q, q0, q1, q2, rfl, rfl, hbw⟩ := hrel
        have HX := Lib.hid hbw
        clear hbw
        by_cases hge : y ≤ q
        · have hy : y < 1970 := by omega
          rw [if_pos hy]
          have hs := Cv.beg_step (by omega : 1 ≤ q) (by omega)
          have hp := Cv.yl_pos q
          have hl := Cv.beg_mono (by omega : (1 : Int) ≤ 1) (by omega : 1 ≤ q) (by omega)
          have hu := Cv.beg_mono (by omega : 1 ≤ q + 1) (by omega : q + 1 ≤ 1970) (by omega)
          have he : Cv.beg 1 = -719162 := by decide
          rw [Cv.beg_1970] at hu
          go_wp2_with fail
          refine (ylong_any q _).mono ?_
          rintro e w1 ⟨rfl, hb1⟩
          have H1 := Lib.hid (below_then HX.out HX.out.size hb1)
          clear hb1
          go_wp2
          go_roundw
          case rel => exact ⟨q - 1, by omega, by omega, by omega, by go_num, by rw [if_pos hy, show q - 1 + 1 = q by omega], H1.out⟩
          case measure => simp [intOf]; omega
        · have e : (if y < 1970 then Cv.beg (q + 1) else Cv.beg y) = Cv.beg y := by
            split
            · rw [show q + 1 = y by omega]
            · rfl
          rw [e]
          go_wp2
          go_ret
          exact ⟨rfl, HX.out⟩

instance (y m d : Int) : Decidable (Cv.val y m d) := inferInstanceAs (Decidable (_ ∧ _))
/-- What Days tells. -/
def dayVal (y m d : Int) : Value := .tuple #[.int .i64 (if Cv.val y m d then Cv.num y m d else 0), .int .i64 (if Cv.val y m d then 0 else 13)]

set_option maxHeartbeats 1000000 in
theorem days_any (y m d : Int) (w : World) (hA : AH w) : Calls Tryd.prog 10 #[.int .i64 y, .int .i64 m, .int .i64 d] w fun e w' => e = .returned (dayVal y m d) ∧ Below w.heap.size w w' := by
  go_enter Tryd.func10, Tryd.ntmps10
  by_cases h1 : d < 1
  · have hv : ¬ Cv.val y m d := fun e => by have := e.1; omega
    go_wp2
    refine bodyPost_ret (v := dayVal y m d) (by simp [results, Tryd.results10, go_sem, dayVal, hv, Cv.num]; first | done | omega) rfl ⟨rfl, Below.refl _ _⟩
  · go_wp2_with fail
    refine (long_any y m _ hA).mono ?_
    rintro e w1 ⟨rfl, hb1⟩
    have H1 := Lib.hid hb1
    clear hb1 hA
    by_cases h2 : d ≤ Cv.longB y m
    · have hv : Cv.val y m d := ⟨by omega, h2⟩
      obtain ⟨r1, r2, r3, r4, r5, r6⟩ := Cv.val_range hv
      have hc := Cv.cday_eq (d := d) r1 r2 r3 r4
      unfold Cv.cday at hc
      by_cases h3 : m - 3 < 0
      · simp only [if_pos h3] at hc
        go_wp2
        refine bodyPost_ret (v := dayVal y m d) (by simp [results, Tryd.results10, go_sem, dayVal, hv, Cv.num]; first | done | omega) rfl ⟨rfl, H1.out⟩
      · simp only [if_neg h3] at hc
        go_wp2
        refine bodyPost_ret (v := dayVal y m d) (by simp [results, Tryd.results10, go_sem, dayVal, hv, Cv.num]; first | done | omega) rfl ⟨rfl, H1.out⟩
    · have hv : ¬ Cv.val y m d := fun e => h2 e.2
      go_wp2
      refine bodyPost_ret (v := dayVal y m d) (by simp [results, Tryd.results10, go_sem, dayVal, hv, Cv.num]; first | done | omega) rfl ⟨rfl, H1.out⟩

set_option maxHeartbeats 1000000 in
theorem rdays_any (y m d : Int) (w : World) : Calls Tryd.prog 11 #[.int .i64 y, .int .i64 m, .int .i64 d] w fun e w' => e = .returned (dayVal y m d) ∧ Below w.heap.size w w' := by
  go_enter Tryd.func11, Tryd.ntmps11
  by_cases h1 : d < 1
  · have hv : ¬ Cv.val y m d := fun e => by have := e.1; omega
    go_wp2
    refine bodyPost_ret (v := dayVal y m d) (by simp [results, Tryd.results11, go_sem, dayVal, hv, Cv.num]; first | done | omega) rfl ⟨rfl, Below.refl _ _⟩
  · go_wp2_with fail
    refine (rlong_any y m _).mono ?_
    rintro e w1 ⟨rfl, hb1⟩
    have H1 := Lib.hid hb1
    clear hb1
    by_cases h2 : d ≤ Cv.longB y m
    · have hv : Cv.val y m d := ⟨by omega, h2⟩
      obtain ⟨r1, r2, r3, r4, r5, r6⟩ := Cv.val_range hv
      go_wp2_with fail
      refine (begins_any y _ r1 (by omega)).mono ?_
      rintro e w2 ⟨rfl, hb2⟩
      have H2 := Lib.hid (below_then H1.out H1.out.size hb2)
      clear hb2
      have hl := Cv.beg_mono (by omega : (1 : Int) ≤ 1) r1 (by omega)
      have hu := Cv.beg_mono r1 (by omega : y ≤ 10000) (by omega)
      have he : Cv.beg 1 = -719162 := by decide
      have he2 : Cv.beg 10000 = 2932897 := by decide
      have hy13 := Cv.cum_13 r1 r2
      have hyl : Cv.yl y ≤ 366 := by unfold Cv.yl; split <;> omega
      go_wp2
      go_loopw [8, 9] (fun n j wr => ∃ q : Int, 1 ≤ q ∧ q ≤ m ∧ j = .int .i64 q ∧ n = .int .i64 (Cv.beg y + d - 1 + Cv.cum y q) ∧ Below w.heap.size w wr) (fun _ j _ => (m - intOf j).toNat)
      case atStart => exact ⟨1, by omega, r3, rfl, by rw [Cv.cum_1]; go_num, H2.out⟩
      case round =>
        obtain ⟨q, q1, q2, rfl, rfl, hbw⟩ := hrel
        have HX := Lib.hid hbw
        clear hbw
        have hc1 := Cv.cum_mono r1 r2 (by omega : (1 : Int) ≤ 1) q1 (by omega)
        have hc2 := Cv.cum_mono r1 r2 q1 (by omega : q ≤ 13) (by omega)
        rw [Cv.cum_1] at hc1
        by_cases hlt : q < m
        · have hs := Cv.cum_step r1 r2 q1 (by omega : q ≤ 12)
          have hlv := Cv.long_vals r1 r2 q1 (by omega : q ≤ 12)
          go_wp2_with fail
          refine (rlong_any y q _).mono ?_
          rintro e w3 ⟨rfl, hb3⟩
          have H3 := Lib.hid (below_then HX.out HX.out.size hb3)
          clear hb3
          go_wp2
          go_roundw
          case rel => exact ⟨q + 1, by omega, by omega, by go_num, by rw [hs]; congr 1; omega, H3.out⟩
          case measure => simp [intOf]; omega
        · obtain rfl : q = m := by omega
          go_wp2
          refine bodyPost_ret (v := dayVal y q d) (by simp [results, Tryd.results11, go_sem, dayVal, hv, Cv.num]; first | done | omega) rfl ⟨rfl, HX.out⟩
    · have hv : ¬ Cv.val y m d := fun e => h2 e.2
      go_wp2
      refine bodyPost_ret (v := dayVal y m d) (by simp [results, Tryd.results11, go_sem, dayVal, hv, Cv.num]; first | done | omega) rfl ⟨rfl, H1.out⟩

end Go.Proofs.YtkmkeimofhpkeaaDoor
