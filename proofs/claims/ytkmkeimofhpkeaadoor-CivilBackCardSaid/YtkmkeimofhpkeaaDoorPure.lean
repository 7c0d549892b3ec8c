/- PLAIN LAW: days, months and years by number. -/
import Derived.KernelRfl
namespace Go.Proofs.YtkmkeimofhpkeaaDoor.Cv
set_option linter.unusedVariables false
set_option linter.unusedSimpArgs false

def leapB (y : Int) : Bool := decide (1 ≤ y) && decide (y ≤ 9999) && (decide (y % 4 = 0) && !decide (y % 100 = 0) || decide (y % 400 = 0))
/-- The number of the first day of a year. -/
def beg (y : Int) : Int := 365 * (y - 1) + (y - 1) / 4 - (y - 1) / 100 + (y - 1) / 400 - 719162
def yl (y : Int) : Int := if leapB y = true then 366 else 365
def cumT (m : Int) : Int := if m ≤ 1 then 0 else if m = 2 then 31 else if m = 3 then 59 else if m = 4 then 90 else if m = 5 then 120 else if m = 6 then 151 else if m = 7 then 181 else if m = 8 then 212 else if m = 9 then 243 else if m = 10 then 273 else if m = 11 then 304 else if m = 12 then 334 else 365
def cum (y m : Int) : Int := cumT m + (if leapB y = true ∧ 3 ≤ m then 1 else 0)
def longB (y m : Int) : Int := if 1 ≤ y ∧ y ≤ 9999 ∧ 1 ≤ m ∧ m ≤ 12 then cum y (m + 1) - cum y m else 0
def num (y m d : Int) : Int := beg y + cum y m + d - 1
def val (y m d : Int) : Prop := 1 ≤ d ∧ d ≤ longB y m

theorem leap_iff (y : Int) : leapB y = true ↔ 1 ≤ y ∧ y ≤ 9999 ∧ (y % 4 = 0 ∧ ¬ y % 100 = 0 ∨ y % 400 = 0) := by
  simp [leapB, and_assoc]

theorem beg_step {y : Int} (h1 : 1 ≤ y) (h2 : y ≤ 9999) : beg (y + 1) = beg y + yl y := by
  unfold beg yl
  by_cases h : leapB y = true
  · rw [if_pos h]
    rw [leap_iff] at h
    omega
  · rw [if_neg h]
    rw [leap_iff] at h
    omega
theorem yl_pos (y : Int) : 365 ≤ yl y := by unfold yl; split <;> omega
theorem beg_mono {a b : Int} (h0 : 1 ≤ a) (h : a ≤ b) (hb : b ≤ 10000) : beg a ≤ beg b := by unfold beg; omega
theorem beg_1970 : beg 1970 = 0 := by decide

/-- civil's own reckoning. -/
def cday (y m d : Int) : Int :=
  let y' := if m - 3 < 0 then y - 1 else y
  let m' := if m - 3 < 0 then m - 3 + 12 else m - 3
  (-719468) + 365 * y' + y' / 4 - y' / 100 + y' / 400 + (153 * m' + 2) / 5 + d - 1
set_option maxHeartbeats 1000000 in
theorem cday_eq {y m d : Int} (h1 : 1 ≤ y) (h2 : y ≤ 9999) (m1 : 1 ≤ m) (m2 : m ≤ 12) : cday y m d = num y m d := by
  have hm : m = 1 ∨ m = 2 ∨ m = 3 ∨ m = 4 ∨ m = 5 ∨ m = 6 ∨ m = 7 ∨ m = 8 ∨ m = 9 ∨ m = 10 ∨ m = 11 ∨ m = 12 := by omega
  have hs := beg_step h1 h2
  have e : y + 1 - 1 = y := by omega
  by_cases h : leapB y = true
  · unfold yl at hs
    rw [if_pos h] at hs
    simp only [beg, e] at hs
    rcases hm with rfl | rfl | rfl | rfl | rfl | rfl | rfl | rfl | rfl | rfl | rfl | rfl <;> simp [cday, num, cum, cumT, beg, h] <;> (generalize y / 4 = a1 at *; generalize y / 100 = a2 at *; generalize y / 400 = a3 at *; generalize (y - 1) / 4 = a4 at *; generalize (y - 1) / 100 = a5 at *; generalize (y - 1) / 400 = a6 at *; omega)
  · unfold yl at hs
    rw [if_neg h] at hs
    simp only [beg, e] at hs
    rcases hm with rfl | rfl | rfl | rfl | rfl | rfl | rfl | rfl | rfl | rfl | rfl | rfl <;> simp [cday, num, cum, cumT, beg, h] <;> (generalize y / 4 = a1 at *; generalize y / 100 = a2 at *; generalize y / 400 = a3 at *; generalize (y - 1) / 4 = a4 at *; generalize (y - 1) / 100 = a5 at *; generalize (y - 1) / 400 = a6 at *; omega)

theorem cum_step {y m : Int} (h1 : 1 ≤ y) (h2 : y ≤ 9999) (m1 : 1 ≤ m) (m2 : m ≤ 12) : cum y (m + 1) = cum y m + longB y m := by
  unfold longB; rw [if_pos ⟨h1, h2, m1, m2⟩]; omega
theorem long_vals {y m : Int} (h1 : 1 ≤ y) (h2 : y ≤ 9999) (m1 : 1 ≤ m) (m2 : m ≤ 12) : 28 ≤ longB y m ∧ longB y m ≤ 31 := by
  have hm : m = 1 ∨ m = 2 ∨ m = 3 ∨ m = 4 ∨ m = 5 ∨ m = 6 ∨ m = 7 ∨ m = 8 ∨ m = 9 ∨ m = 10 ∨ m = 11 ∨ m = 12 := by omega
  by_cases h : leapB y = true <;> rcases hm with rfl | rfl | rfl | rfl | rfl | rfl | rfl | rfl | rfl | rfl | rfl | rfl <;> simp [longB, cum, cumT, h, h1, h2]
theorem cum_13 {y : Int} (h1 : 1 ≤ y) (h2 : y ≤ 9999) : cum y 13 = yl y := by
  unfold yl
  by_cases h : leapB y = true <;> simp [cum, cumT, h]
theorem cum_1 (y : Int) : cum y 1 = 0 := by simp [cum, cumT]
theorem cum_mono {y a b : Int} (h1 : 1 ≤ y) (h2 : y ≤ 9999) (ha : 1 ≤ a) (hab : a ≤ b) (hb : b ≤ 13) : cum y a ≤ cum y b := by
  have hA : a = 1 ∨ a = 2 ∨ a = 3 ∨ a = 4 ∨ a = 5 ∨ a = 6 ∨ a = 7 ∨ a = 8 ∨ a = 9 ∨ a = 10 ∨ a = 11 ∨ a = 12 ∨ a = 13 := by omega
  have hB : b = 1 ∨ b = 2 ∨ b = 3 ∨ b = 4 ∨ b = 5 ∨ b = 6 ∨ b = 7 ∨ b = 8 ∨ b = 9 ∨ b = 10 ∨ b = 11 ∨ b = 12 ∨ b = 13 := by omega
  by_cases h : leapB y = true <;> rcases hA with rfl | rfl | rfl | rfl | rfl | rfl | rfl | rfl | rfl | rfl | rfl | rfl | rfl <;> rcases hB with rfl | rfl | rfl | rfl | rfl | rfl | rfl | rfl | rfl | rfl | rfl | rfl | rfl <;> first | omega | simp [cum, cumT, h]

theorem val_range {y m d : Int} (h : val y m d) : 1 ≤ y ∧ y ≤ 9999 ∧ 1 ≤ m ∧ m ≤ 12 ∧ 1 ≤ d ∧ d ≤ 31 := by
  obtain ⟨a, b⟩ := h
  by_cases c : 1 ≤ y ∧ y ≤ 9999 ∧ 1 ≤ m ∧ m ≤ 12
  · have := long_vals c.1 c.2.1 c.2.2.1 c.2.2.2
    exact ⟨c.1, c.2.1, c.2.2.1, c.2.2.2, a, by omega⟩
  · unfold longB at b; rw [if_neg c] at b; omega
/-- A day lies in its year, in its month. -/
theorem val_in {y m d : Int} (h : val y m d) : beg y ≤ num y m d ∧ num y m d < beg (y + 1) ∧ cum y m ≤ num y m d - beg y ∧ num y m d - beg y < cum y (m + 1) := by
  obtain ⟨h1, h2, m1, m2, d1, d2⟩ := val_range h
  have a := cum_step h1 h2 m1 m2
  have b := cum_mono h1 h2 (by omega : (1 : Int) ≤ 1) m1 (by omega)
  have c := cum_mono h1 h2 (by omega : 1 ≤ m + 1) (by omega : m + 1 ≤ 13) (by omega)
  rw [cum_1] at b
  rw [cum_13 h1 h2] at c
  have e := beg_step h1 h2
  have f := h.2
  unfold num
  omega
theorem num_inj {y m d y' m' d' : Int} (h : val y m d) (h' : val y' m' d') (e : num y m d = num y' m' d') : y = y' ∧ m = m' ∧ d = d' := by
  obtain ⟨h1, h2, m1, m2, d1, d2⟩ := val_range h
  obtain ⟨h1', h2', m1', m2', d1', d2'⟩ := val_range h'
  obtain ⟨a, b, c, f⟩ := val_in h
  obtain ⟨a', b', c', f'⟩ := val_in h'
  have hy : y = y' := by
    rcases Int.lt_trichotomy y y' with hl | hl | hl
    · have := beg_mono (by omega : 1 ≤ y + 1) (by omega : y + 1 ≤ y') (by omega); omega
    · exact hl
    · have := beg_mono (by omega : 1 ≤ y' + 1) (by omega : y' + 1 ≤ y) (by omega); omega
  subst hy
  have hm : m = m' := by
    rcases Int.lt_trichotomy m m' with hl | hl | hl
    · have := cum_mono h1 h2 (by omega : 1 ≤ m + 1) (by omega : m + 1 ≤ m') (by omega); omega
    · exact hl
    · have := cum_mono h1 h2 (by omega : 1 ≤ m' + 1) (by omega : m' + 1 ≤ m) (by omega); omega
  subst hm
  exact ⟨rfl, rfl, by unfold num at e; omega⟩

/-- civil's Date: the year, the month, the day of a number. -/
def dY (n : Int) : Int :=
  let r := (n + 719468) % 146097
  let n100 := min (r / 36524) 3
  let r2 := r - n100 * 36524
  let n1 := min (r2 % 1461 / 365) 3
  400 * ((n + 719468) / 146097) + 100 * n100 + 4 * (r2 / 1461) + n1
def dR (n : Int) : Int :=
  let r := (n + 719468) % 146097
  let r2 := r - min (r / 36524) 3 * 36524
  r2 % 1461 - min (r2 % 1461 / 365) 3 * 365
def dM (n : Int) : Int := (5 * dR n + 2) / 153
def dD (n : Int) : Int := dR n - (153 * dM n + 2) / 5 + 1
def dateY (n : Int) : Int := if 12 < dM n + 3 then dY n + 1 else dY n
def dateM (n : Int) : Int := if 12 < dM n + 3 then dM n + 3 - 12 else dM n + 3

theorem fin1 {n Y R M : Int} (h : n + 719468 = 365 * Y + Y / 4 - Y / 100 + Y / 400 + R) : (-719468) + 365 * Y + Y / 4 - Y / 100 + Y / 400 + (153 * M + 2) / 5 + (R - (153 * M + 2) / 5 + 1) - 1 = n := by omega

set_option maxHeartbeats 1000000 in
theorem date_law (n : Int) (h0 : -719162 ≤ n) (h1 : n ≤ 2932896) : val (dateY n) (dateM n) (dD n) ∧ num (dateY n) (dateM n) (dD n) = n := by
  obtain ⟨r, hr⟩ : ∃ r, (n + 719468) % 146097 = r := ⟨_, rfl⟩
  obtain ⟨n4h, hn4h⟩ : ∃ q, (n + 719468) / 146097 = q := ⟨_, rfl⟩
  obtain ⟨c, hc⟩ : ∃ c, min (r / 36524) 3 = c := ⟨_, rfl⟩
  obtain ⟨r2, hr2⟩ : ∃ r2, r - c * 36524 = r2 := ⟨_, rfl⟩
  obtain ⟨q, hq⟩ : ∃ q, r2 / 1461 = q := ⟨_, rfl⟩
  obtain ⟨r3, hr3⟩ : ∃ r3, r2 % 1461 = r3 := ⟨_, rfl⟩
  obtain ⟨k, hk⟩ : ∃ k, min (r3 / 365) 3 = k := ⟨_, rfl⟩
  obtain ⟨R, hR⟩ : ∃ R, r3 - k * 365 = R := ⟨_, rfl⟩
  obtain ⟨M, hM⟩ : ∃ M, (5 * R + 2) / 153 = M := ⟨_, rfl⟩
  obtain ⟨Y, hY⟩ : ∃ Y, 400 * n4h + 100 * c + 4 * q + k = Y := ⟨_, rfl⟩
  have eR : dR n = R := by simp only [dR, hr, hc, hr2, hr3, hk, hR]
  have eY : dY n = Y := by simp only [dY, hr, hc, hr2, hr3, hk, hq, hn4h, hY]
  have eM : dM n = M := by rw [dM, eR, hM]
  have b1 : 0 ≤ r ∧ r < 146097 := by omega
  have b2 : 0 ≤ c ∧ c ≤ 3 ∧ c * 36524 ≤ r ∧ (c < 3 → r < c * 36524 + 36524) := by omega
  have b3 : 0 ≤ r2 ∧ (c < 3 → r2 < 36524) ∧ r2 ≤ 36524 := by omega
  have b4 : 0 ≤ q ∧ q ≤ 24 ∧ 0 ≤ r3 ∧ r3 ≤ 1460 ∧ r2 = 1461 * q + r3 := by omega
  have b5 : 0 ≤ k ∧ k ≤ 3 ∧ 0 ≤ R ∧ R ≤ 365 ∧ (k < 3 → R < 365) := by omega
  have b6 : 0 ≤ M ∧ M ≤ 11 := by omega
  have b7 : 0 ≤ n4h ∧ n4h ≤ 24 := by omega
  have hn : n + 719468 = 146097 * n4h + 36524 * c + 1461 * q + 365 * k + R := by omega
  have hY0 : 0 ≤ Y ∧ Y ≤ 9999 := by omega
  have yd4 : Y / 4 = 100 * n4h + 25 * c + q := by omega
  have yd100 : Y / 100 = 4 * n4h + c := by omega
  have yd400 : Y / 400 = n4h := by omega
  have hn2 : n + 719468 = 365 * Y + Y / 4 - Y / 100 + Y / 400 + R := by omega
  have hM1 : (153 * M + 2) / 5 ≤ R := by omega
  have hM2 : R < (153 * (M + 1) + 2) / 5 := by omega
  have hDd : dD n = R - (153 * M + 2) / 5 + 1 := by rw [dD, eR, eM]
  have hR365 : R = 365 → k = 3 ∧ (Y + 1) % 4 = 0 ∧ ((Y + 1) % 100 = 0 → (Y + 1) % 400 = 0) := by omega
  have hlow : M = 10 ∨ M = 11 ∨ 1 ≤ Y := by omega
  have hhigh : Y ≤ 9998 ∨ M ≤ 9 := by omega
  have eDY : dateY n = if 12 < M + 3 then Y + 1 else Y := by rw [dateY, eM, eY]
  have eDM : dateM n = if 12 < M + 3 then M + 3 - 12 else M + 3 := by rw [dateM, eM]
  have ry : 1 ≤ dateY n ∧ dateY n ≤ 9999 := by rw [eDY]; split <;> omega
  have rm : 1 ≤ dateM n ∧ dateM n ≤ 12 := by rw [eDM]; split <;> omega
  refine ⟨⟨by rw [hDd]; omega, ?_⟩, ?_⟩
  · unfold longB
    rw [if_pos ⟨ry.1, ry.2, rm.1, rm.2⟩, hDd]
    have hm : M = 0 ∨ M = 1 ∨ M = 2 ∨ M = 3 ∨ M = 4 ∨ M = 5 ∨ M = 6 ∨ M = 7 ∨ M = 8 ∨ M = 9 ∨ M = 10 ∨ M = 11 := by omega
    rw [eDM, eDY]
    by_cases hl : leapB (Y + 1) = true
    · have := (leap_iff _).1 hl
      rcases hm with h | h | h | h | h | h | h | h | h | h | h | h <;> rw [h] <;> rw [h] at hM2 <;> by_cases hl0 : leapB Y = true <;> simp [cum, cumT, hl, hl0] <;> omega
    · have hno : ¬ R = 365 := fun e => hl ((leap_iff _).2 (by have := hR365 e; omega))
      rcases hm with h | h | h | h | h | h | h | h | h | h | h | h <;> rw [h] <;> rw [h] at hM2 <;> by_cases hl0 : leapB Y = true <;> simp [cum, cumT, hl, hl0] <;> omega
  · rw [← cday_eq ry.1 ry.2 rm.1 rm.2, eDM, eDY, hDd]
    unfold cday
    by_cases h : 12 < M + 3
    · simp only [if_pos h, if_pos (show M + 3 - 12 - 3 < 0 by omega)]
      rw [show Y + 1 - 1 = Y by omega, show M + 3 - 12 - 3 + 12 = M by omega]
      exact fin1 hn2
    · simp only [if_neg h, if_neg (show ¬ M + 3 - 3 < 0 by omega)]
      rw [show M + 3 - 3 = M by omega]
      exact fin1 hn2

end Go.Proofs.YtkmkeimofhpkeaaDoor.Cv
