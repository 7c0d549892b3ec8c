/- WALKS: civil's and the document's Date. -/
import Derived.Test.YtkmkeimofhpkeaaDoorWalk2
namespace Go.Proofs.YtkmkeimofhpkeaaDoor
set_option linter.unusedVariables false
set_option linter.unusedSimpArgs false
open Go.RowKit

theorem int_eq {a b : Int} (h : a = b) : Value.int .i64 a = .int .i64 b := by rw [h]
def inR (n : Int) : Prop := -719162 ≤ n ∧ n ≤ 2932896
instance (n : Int) : Decidable (inR n) := inferInstanceAs (Decidable (_ ∧ _))
def dateVal (n : Int) : Value := if inR n then .tuple #[.int .i64 (Cv.dateY n), .int .i64 (Cv.dateM n), .int .i64 (Cv.dD n)] else .tuple #[.int .i64 0, .int .i64 0, .int .i64 0]
theorem day1 : dayVal 1 1 1 = .tuple #[.int .i64 (-719162), .int .i64 0] := by
  unfold dayVal; rw [if_pos (by decide), if_pos (by decide)]; rfl
theorem day9999 : dayVal 9999 12 31 = .tuple #[.int .i64 2932896, .int .i64 0] := by
  unfold dayVal; rw [if_pos (by decide), if_pos (by decide)]; rfl

set_option maxHeartbeats 1000000 in
theorem date_any (n : Int) (w : World) (hA : AH w) : Calls Tryd.prog 17 #[.int .i64 n] w fun e w' => e = .returned (dateVal n) ∧ Below w.heap.size w w' := by
  go_enter Tryd.func17, Tryd.ntmps17
  go_wp2_with fail
  refine (days_any 1 1 1 _ hA).mono ?_
  rw [day1]
  rintro e w1 ⟨rfl, hb1⟩
  have A1 := Lib.hid (hA.below hb1)
  have H1 := Lib.hid hb1
  clear hb1 hA
  go_wp2_with fail
  refine (days_any 9999 12 31 _ A1.out).mono ?_
  rw [day9999]
  rintro e w2 ⟨rfl, hb2⟩
  have H2 := Lib.hid (below_then H1.out H1.out.size hb2)
  clear hb2
  by_cases h1 : n < -719162
  · have hv : ¬ inR n := fun e => by have := e.1; omega
    go_wp2
    refine bodyPost_ret (v := dateVal n) (by simp [results, Tryd.results17, go_sem, dateVal, hv]) rfl ⟨rfl, H2.out⟩
  · by_cases h2 : 2932896 < n
    · have hv : ¬ inR n := fun e => by have := e.2; omega
      go_wp2
      refine bodyPost_ret (v := dateVal n) (by simp [results, Tryd.results17, go_sem, dateVal, hv]) rfl ⟨rfl, H2.out⟩
    · have hv : inR n := ⟨by omega, by omega⟩
      obtain ⟨r, hr⟩ : ∃ r, (n + 719468) % 146097 = r := ⟨_, rfl⟩
      obtain ⟨nh, hnh⟩ : ∃ q, (n + 719468) / 146097 = q := ⟨_, rfl⟩
      obtain ⟨c, hc⟩ : ∃ c, min (r / 36524) 3 = c := ⟨_, rfl⟩
      obtain ⟨r2, hr2⟩ : ∃ r2, r - c * 36524 = r2 := ⟨_, rfl⟩
      obtain ⟨q, hq⟩ : ∃ q, r2 / 1461 = q := ⟨_, rfl⟩
      obtain ⟨r3, hr3⟩ : ∃ r3, r2 % 1461 = r3 := ⟨_, rfl⟩
      obtain ⟨k, hk⟩ : ∃ k, min (r3 / 365) 3 = k := ⟨_, rfl⟩
      obtain ⟨R, hR⟩ : ∃ R, r3 - k * 365 = R := ⟨_, rfl⟩
      obtain ⟨M, hM⟩ : ∃ M, (5 * R + 2) / 153 = M := ⟨_, rfl⟩
      have eR : Cv.dR n = R := by simp only [Cv.dR, hr, hc, hr2, hr3, hk, hR]
      have eY : Cv.dY n = 400 * nh + 100 * c + 4 * q + k := by simp only [Cv.dY, hr, hc, hr2, hr3, hk, hq, hnh]
      have eM : Cv.dM n = M := by rw [Cv.dM, eR, hM]
      have b1 : 0 ≤ r ∧ r < 146097 := by omega
      have b2 : 0 ≤ c ∧ c ≤ 3 ∧ c * 36524 ≤ r ∧ (c < 3 → r < c * 36524 + 36524) := by omega
      have b3 : 0 ≤ r2 ∧ (c < 3 → r2 < 36524) ∧ r2 ≤ 36524 := by omega
      have b4 : 0 ≤ q ∧ q ≤ 24 ∧ 0 ≤ r3 ∧ r3 ≤ 1460 := by omega
      have b5 : 0 ≤ k ∧ k ≤ 3 ∧ 0 ≤ R ∧ R ≤ 365 := by omega
      have b6 : 0 ≤ M ∧ M ≤ 11 := by omega
      have b7 : 0 ≤ nh ∧ nh ≤ 24 := by omega
      have hcA : (3 < r / 36524 ∧ c = 3 ∧ r - 109572 = r2) ∨ (¬ 3 < r / 36524 ∧ r / 36524 = c ∧ r - c * 36524 = r2) := by omega
      have hkA : (3 < r3 / 365 ∧ k = 3 ∧ r3 - 1095 = R) ∨ (¬ 3 < r3 / 365 ∧ r3 / 365 = k ∧ r3 - k * 365 = R) := by omega
      have EV := Lib.hid (⟨eR, eY, eM⟩ : Cv.dR n = R ∧ Cv.dY n = 400 * nh + 100 * c + 4 * q + k ∧ Cv.dM n = M)
      clear eR eY eM hc hr2 hk hR
      rcases hcA with ⟨i1, i2, i3⟩ | ⟨i1, i2, i3⟩ <;> rcases hkA with ⟨j1, j2, j3⟩ | ⟨j1, j2, j3⟩ <;> by_cases hM12 : 12 < M + 3
      all_goals
        go_wp2
        all_goals refine bodyPost_ret (v := dateVal n) (by obtain ⟨e1, e2, e3⟩ := EV.out; simp [results, Tryd.results17, go_sem, dateVal, hv, Cv.dateY, Cv.dateM, Cv.dD, e1, e2, e3, hM12]; first | done | omega) rfl ⟨rfl, H2.out⟩


set_option maxHeartbeats 2000000 in
theorem rdate_any (n : Int) (w : World) : Calls Tryd.prog 18 #[.int .i64 n] w fun e w' => e = .returned (dateVal n) ∧ Below w.heap.size w w' := by
  go_enter Tryd.func18, Tryd.ntmps18
  have hb1 : Cv.beg 1 = -719162 := by decide
  have hb2 : Cv.beg 10000 = 2932897 := by decide
  go_wp2_with fail
  refine (begins_any 1 _ (by omega) (by omega)).mono ?_
  rw [hb1]
  rintro e w1 ⟨rfl, hb⟩
  have H1 := Lib.hid hb
  clear hb
  by_cases h1 : n < -719162
  · have hv : ¬ inR n := fun e => by have := e.1; omega
    go_wp2
    refine bodyPost_ret (v := dateVal n) (by simp [results, Tryd.results18, go_sem, dateVal, hv]) rfl ⟨rfl, H1.out⟩
  · go_wp2_with fail
    refine (begins_any 10000 _ (by omega) (by omega)).mono ?_
    rw [hb2]
    rintro e w2 ⟨rfl, hb⟩
    have H2 := Lib.hid (below_then H1.out H1.out.size hb)
    clear hb
    by_cases h2 : 2932896 < n
    · have hv : ¬ inR n := fun e => by have := e.2; omega
      go_wp2
      refine bodyPost_ret (v := dateVal n) (by simp [results, Tryd.results18, go_sem, dateVal, hv]) rfl ⟨rfl, H2.out⟩
    · have hv : inR n := ⟨by omega, by omega⟩
      obtain ⟨hval, hnum⟩ := Cv.date_law n (by omega) (by omega)
      have hdv : dateVal n = .tuple #[.int .i64 (Cv.dateY n), .int .i64 (Cv.dateM n), .int .i64 (Cv.dD n)] := by unfold dateVal; rw [if_pos hv]
      generalize Cv.dateY n = Y at *
      generalize Cv.dateM n = M at *
      generalize Cv.dD n = D at *
      obtain ⟨r1, r2, r3, r4, r5, r6⟩ := Cv.val_range hval
      obtain ⟨k1, k2, k3, k4⟩ := Cv.val_in hval
      rw [hnum] at k1 k2 k3 k4
      have hD : D = n - Cv.beg Y - Cv.cum Y M + 1 := by rw [← hnum]; unfold Cv.num; omega
      have EV := Lib.hid hD
      have HDV := Lib.hid hdv
      clear hdv hval hnum hD
      go_wp2
      go_loopw [0, 5] (fun d j wr => ∃ y : Int, 1 ≤ y ∧ y ≤ 1970 ∧ (Y ≤ y ∨ y = 1970) ∧ j = .int .i64 y ∧ d = .int .i64 (n - Cv.beg y) ∧ Below w.heap.size w wr) (fun _ j _ => (intOf j).toNat)
      case atStart => exact ⟨1970, by omega, by omega, .inr rfl, rfl, by rw [Cv.beg_1970]; simp, H2.out⟩
      case round =>
        obtain ⟨y, y1, y2, y3, rfl, rfl, hbw⟩ := hrel
        have HW := Lib.hid hbw
        clear hbw
        have hl := Cv.beg_mono (by omega : (1 : Int) ≤ 1) y1 (by omega)
        have hu := Cv.beg_mono y1 (by omega : y ≤ 10000) (by omega)
        by_cases hneg : n - Cv.beg y < 0
        · have hYy : Y < y := by
            rcases Int.lt_or_le Y y with h | h
            · exact h
            · have := Cv.beg_mono y1 h (by omega); omega
          have hs := Cv.beg_step (by omega : 1 ≤ y - 1) (by omega)
          have hp := Cv.yl_pos (y - 1)
          have hp2 : Cv.yl (y - 1) ≤ 366 := by unfold Cv.yl; split <;> omega
          rw [show y - 1 + 1 = y by omega] at hs
          go_wp2_with fail
          refine (ylong_any (y - 1) _).mono ?_
          rintro e w3 ⟨rfl, hb⟩
          have H3 := Lib.hid (below_then HW.out HW.out.size hb)
          clear hb
          go_wp2
          go_roundw
          case rel => exact ⟨y - 1, by omega, by omega, .inl (by omega), by go_num, int_eq (by omega), H3.out⟩
          case measure => simp [intOf]; omega
        · have hYy : y ≤ Y := by
            rcases Int.lt_or_le Y y with h | h
            · have := Cv.beg_mono (by omega : 1 ≤ Y + 1) (by omega : Y + 1 ≤ y) (by omega); omega
            · exact h
          go_wp2
          go_loopw [0, 5] (fun d j wr => ∃ y : Int, 1 ≤ y ∧ y ≤ Y ∧ Cv.beg y ≤ n ∧ j = .int .i64 y ∧ d = .int .i64 (n - Cv.beg y) ∧ Below w.heap.size w wr) (fun _ j _ => (Y - intOf j).toNat)
          case atStart => exact ⟨y, y1, hYy, by omega, rfl, rfl, HW.out⟩
          case round =>
            clear hneg hYy y3 hl hu
            obtain ⟨x, x1, x2, x3, rfl, rfl, hbw⟩ := hrel
            have HX := Lib.hid hbw
            clear hbw
            have hl := Cv.beg_mono (by omega : (1 : Int) ≤ 1) x1 (by omega)
            have hs := Cv.beg_step x1 (by omega)
            have hp := Cv.yl_pos x
            have hp2 : Cv.yl x ≤ 366 := by unfold Cv.yl; split <;> omega
            go_wp2_with fail
            refine (ylong_any x _).mono ?_
            rintro e w3 ⟨rfl, hb⟩
            have H3 := Lib.hid (below_then HX.out HX.out.size hb)
            clear hb
            by_cases hge : Cv.yl x ≤ n - Cv.beg x
            · have hxY : x + 1 ≤ Y := by
                rcases Int.lt_or_le Y (x + 1) with h | h
                · have e : x = Y := by omega
                  subst e; omega
                · exact h
              go_wp2_with fail
              refine (ylong_any x _).mono ?_
              rintro e w4 ⟨rfl, hb⟩
              have H4 := Lib.hid (below_then H3.out H3.out.size hb)
              clear hb
              go_wp2
              go_roundw
              case rel => exact ⟨x + 1, by omega, by omega, by omega, by go_num, int_eq (by omega), H4.out⟩
              case measure => simp [intOf]; omega
            · have hxY : x = Y := by
                rcases Int.lt_or_le x Y with h | h
                · have := Cv.beg_mono (by omega : 1 ≤ x + 1) (by omega : x + 1 ≤ Y) (by omega); omega
                · omega
              subst hxY
              have hc13 := Cv.cum_13 r1 r2
              go_wp2
              go_loopw [0, 6] (fun d j wr => ∃ m : Int, 1 ≤ m ∧ m ≤ M ∧ Cv.cum x m ≤ n - Cv.beg x ∧ j = .int .i64 m ∧ d = .int .i64 (n - Cv.beg x - Cv.cum x m) ∧ Below w.heap.size w wr) (fun _ j _ => (M - intOf j).toNat)
              case atStart => exact ⟨1, by omega, r3, by rw [Cv.cum_1]; omega, rfl, by rw [Cv.cum_1]; simp, H3.out⟩
              case round =>
                obtain ⟨m, m1, m2, m3, rfl, rfl, hbw⟩ := hrel
                have HM := Lib.hid hbw
                clear hbw
                have hc := Cv.cum_step r1 r2 m1 (by omega : m ≤ 12)
                have hlv := Cv.long_vals r1 r2 m1 (by omega : m ≤ 12)
                have hc0 := Cv.cum_mono r1 r2 (by omega : (1 : Int) ≤ 1) m1 (by omega)
                rw [Cv.cum_1] at hc0
                go_wp2_with fail
                refine (rlong_any x m _).mono ?_
                rintro e w5 ⟨rfl, hb⟩
                have H5 := Lib.hid (below_then HM.out HM.out.size hb)
                clear hb
                by_cases hgm : Cv.longB x m ≤ n - Cv.beg x - Cv.cum x m
                · have hmM : m + 1 ≤ M := by
                    rcases Int.lt_or_le M (m + 1) with h | h
                    · have e : m = M := by omega
                      subst e; omega
                    · exact h
                  go_wp2_with fail
                  refine (rlong_any x m _).mono ?_
                  rintro e w6 ⟨rfl, hb⟩
                  have H6 := Lib.hid (below_then H5.out H5.out.size hb)
                  clear hb
                  go_wp2
                  go_roundw
                  case rel => exact ⟨m + 1, by omega, by omega, by omega, by go_num, int_eq (by omega), H6.out⟩
                  case measure => simp [intOf]; omega
                · have hmM : m = M := by
                    rcases Int.lt_or_le m M with h | h
                    · have := Cv.cum_mono r1 r2 (by omega : 1 ≤ m + 1) (by omega : m + 1 ≤ M) (by omega); omega
                    · omega
                  subst hmM
                  go_wp2
                  refine bodyPost_ret (v := dateVal n) (by rw [HDV.out]; have := EV.out; simp [results, Tryd.results18, go_sem]; omega) rfl ⟨rfl, H5.out⟩

end Go.Proofs.YtkmkeimofhpkeaaDoor
