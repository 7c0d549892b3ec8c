/- PLAIN: each one more who suspects lets a suspicion end sooner, or as soon. -/
import Derived.Test.YtadhcnfgbiokcaaHeLaw
namespace Go.Proofs.Ytadhcnfgbiokcaa
set_option linter.unusedVariables false
set_option linter.unusedSimpArgs false
open Go.RowKit
/-- A health whose one suspicion is of node 1, from 100 on. -/
structure SoOk (lo hi kk sc : Int) (h : Hs) (x : Su) : Prop where
  ok : HsOk h
  s : h.s 1 = some x
  i : x.i = 0
  f : x.f = 100
  me : h.me = 0
  mn : h.mn = lo
  mx : h.mx = hi
  cf : h.cf = kk
  sc : h.sc = sc
theorem span_mono {h : Hs} (H : HOk h) {a b : Nat} (hab : a ≤ b) : spanOf h b ≤ spanOf h a := by
  have := H.mx
  unfold spanOf
  split
  · rename_i hc
    have h1 : (h.mx - h.mn) * ((a : Int) - 1) ≤ (h.mx - h.mn) * ((b : Int) - 1) := Int.mul_le_mul_of_nonneg_left (by omega) (by omega)
    have h2 := Int.ediv_le_ediv hc h1
    omega
  · omega
theorem soon_low {lo hi kk sc : Int} {h : Hs} {x : Su} (H : SoOk lo hi kk sc h x) : 100 + lo * (sc + 1) ≤ endOf h x := by
  have hx := H.ok.su 1 x H.s
  have hr := span_range H.ok.ok hx.o1 hx.o2
  have hs := H.ok.ok.sc
  unfold endOf
  rw [H.f, ← H.mn, ← H.sc]
  have : h.mn * (h.sc + 1) ≤ spanOf h (He.ones x.w) * (h.sc + 1) := Int.mul_le_mul_of_nonneg_right hr.1 (by omega)
  omega
theorem soon_high {lo hi kk sc : Int} {h : Hs} {x : Su} (H : SoOk lo hi kk sc h x) : endOf h x ≤ 100 + hi * (sc + 1) := by
  have hx := H.ok.su 1 x H.s
  have hr := span_range H.ok.ok hx.o1 hx.o2
  have hs := H.ok.ok.sc
  unfold endOf
  rw [H.f, ← H.mx, ← H.sc]
  have : spanOf h (He.ones x.w) * (h.sc + 1) ≤ h.mx * (h.sc + 1) := Int.mul_le_mul_of_nonneg_right hr.2 (by omega)
  omega
theorem soon_step {lo hi kk sc : Int} {h : Hs} {x : Su} (H : SoOk lo hi kk sc h x) (u : Int) (h0 : 0 ≤ u) (h1 : u < 64) : ∃ x', SoOk lo hi kk sc (susp h 1 1 0 u 200).2 x' ∧ endOf (susp h 1 1 0 u 200).2 x' ≤ endOf h x := by
  have hm : susMay h 1 1 0 u 200 := ⟨rfl, by omega, h1, by rw [H.me]; omega, by omega, by omega, by omega, by omega⟩
  have hx := H.ok.su 1 x H.s
  have hsu := susp_ok h 1 1 0 u 200 H.ok (by omega) h0
  by_cases hc : x.w / 2 ^ u.toNat % 2 = 1 ∨ h.cf < (He.ones x.w : Int)
  · rw [susp_no_eq hm H.s (by rw [H.i]; omega) (.inr hc)]
    exact ⟨x, H, Int.le_refl _⟩
  · have hb : x.w / 2 ^ u.toNat % 2 = 0 := by omega
    have e := susp_more_eq hm H.s H.i hb (by omega)
    rw [e] at hsu ⊢
    refine ⟨⟨x.i, x.f, x.w + 2 ^ u.toNat⟩, ⟨hsu, rfl, H.i, H.f, H.me, H.mn, H.mx, H.cf, H.sc⟩, ?_⟩
    have ho := (ones_more hx.w (by omega) hb).1
    have hs := H.ok.ok.sc
    have hsp := span_mono H.ok.ok (a := He.ones x.w) (b := He.ones (x.w + 2 ^ u.toNat)) (by omega)
    show x.f + spanOf h (He.ones (x.w + 2 ^ u.toNat)) * (h.sc + 1) ≤ x.f + spanOf h (He.ones x.w) * (h.sc + 1)
    have := Int.mul_le_mul_of_nonneg_right hsp (show 0 ≤ h.sc + 1 by omega)
    omega
/-- The health of the law, with its score. -/
def so0 (lo hi kk sc : Int) : Hs := { hnew 0 lo hi kk with sc := sc }
def so1 (lo hi kk sc : Int) : Hs := (so0 lo hi kk sc).at_ 1 (some ⟨0, 100, 4⟩)
theorem so0_ok {lo hi kk sc : Int} (HL : 1 ≤ lo ∧ lo ≤ hi ∧ hi ≤ 1073741824) (hk : 0 ≤ kk ∧ kk ≤ 16) (hs : 0 ≤ sc ∧ sc ≤ 8) : HsOk (so0 lo hi kk sc) :=
  ⟨⟨by simp [so0, hnew], HL.1, HL.2.1, HL.2.2, hk, hs⟩, fun k x h => by cases h⟩
theorem so_1 {lo hi kk sc : Int} : susp (so0 lo hi kk sc) 1 1 0 2 100 = (true, so1 lo hi kk sc) := by
  rw [susp_new_eq ⟨rfl, by omega, by omega, by show ¬ (1 : Int) = 0; omega, by omega, by omega, by omega, by omega⟩ (.inl rfl)]
  rfl
theorem so1_ok {lo hi kk sc : Int} (HL : 1 ≤ lo ∧ lo ≤ hi ∧ hi ≤ 1073741824) (hk : 0 ≤ kk ∧ kk ≤ 16) (hs : 0 ≤ sc ∧ sc ≤ 8) : SoOk lo hi kk sc (so1 lo hi kk sc) ⟨0, 100, 4⟩ := by
  have h := susp_ok (so0 lo hi kk sc) 1 1 0 2 100 (so0_ok HL hk hs) (by omega) (by omega)
  rw [so_1] at h
  exact ⟨h, rfl, rfl, rfl, rfl, rfl, rfl, rfl, rfl⟩
theorem so_2 {lo hi kk sc : Int} (hk : 0 < kk) : endOf (so1 lo hi kk sc) ⟨0, 100, 4⟩ = 100 + hi * (sc + 1) := by
  show 100 + spanOf (so1 lo hi kk sc) (He.ones 4) * (sc + 1) = _
  have : spanOf (so1 lo hi kk sc) (He.ones 4) = hi := by
    rw [show He.ones 4 = 1 by decide +kernel]
    show (if 0 < kk then hi - (hi - lo) * (((1 : Nat) : Int) - 1) / kk else lo) = hi
    rw [if_pos hk]
    simp
  rw [this]
theorem bumped_0 {b : Int} (h : 0 ≤ b ∧ b ≤ 8) : bumped 0 b = b := by unfold bumped; omega
end Go.Proofs.Ytadhcnfgbiokcaa
