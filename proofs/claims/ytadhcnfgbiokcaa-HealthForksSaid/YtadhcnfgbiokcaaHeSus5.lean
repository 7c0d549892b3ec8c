/- WORDS: health's Suspect, whole: what it answers, what the health is behind it. -/
import Derived.Test.YtadhcnfgbiokcaaHeSus
import Derived.Test.YtadhcnfgbiokcaaHeSus3
import Derived.Test.YtadhcnfgbiokcaaHeSus4
import Derived.Test.YtadhcnfgbiokcaaBits2
namespace Go.Proofs.Ytadhcnfgbiokcaa
set_option linter.unusedVariables false
set_option linter.unusedSimpArgs false
open Go.RowKit

/-- A health and its suspicions are as they may be. -/
structure HsOk (h : Hs) : Prop where
  ok : HOk h
  su : ∀ k x, h.s k = some x → SuOk h.cf x
/-- What may be suspected at all. -/
def susMay (h : Hs) (n st i fr now : Int) : Prop := st = 1 ∧ n < 64 ∧ fr < 64 ∧ ¬ n = h.me ∧ 0 ≤ i ∧ i ≤ 1073741824 ∧ 0 ≤ now ∧ now ≤ 1099511627776
instance (h : Hs) (n st i fr now : Int) : Decidable (susMay h n st i fr now) := by unfold susMay; infer_instance
/-- Suspect. -/
def susp (h : Hs) (n st i fr now : Int) : Bool × Hs :=
  if susMay h n st i fr now then
    match h.s n.toNat with
    | none => (true, h.at_ n.toNat (some ⟨i, now, 2 ^ fr.toNat⟩))
    | some x =>
      if x.i < i then (true, h.at_ n.toNat (some ⟨i, now, 2 ^ fr.toNat⟩))
      else if i < x.i ∨ x.w / 2 ^ fr.toNat % 2 = 1 ∨ h.cf < (He.ones x.w : Int) then (false, h)
      else (true, h.at_ n.toNat (some ⟨x.i, x.f, x.w + 2 ^ fr.toNat⟩))
  else (false, h)

theorem suspect_any2 (g : Nat) (h : Hs) (n st i fr now : Int) (w : World) (H : IsH w g h) (HO : HsOk h) (hn : 0 ≤ n) (hf : 0 ≤ fr) :
    Calls Try.prog 9 #[.pointer (some ⟨g, 0, none⟩), .agg #[.int .u16 n, .int .u8 st, .int .i64 i], .int .u16 fr, .int .i64 now] w fun e w' => e = .returned (.bool (susp h n st i fr now).1) ∧ w.grownBy w' (some g) ∧ IsH w' g (susp h n st i fr now).2 := by
  have no : ∀ {C : Ending → World → Prop}, (∀ e w', C e w' → e = .returned (.bool false) ∧ Below w.heap.size w w') → Calls Try.prog 9 #[.pointer (some ⟨g, 0, none⟩), .agg #[.int .u16 n, .int .u8 st, .int .i64 i], .int .u16 fr, .int .i64 now] w C →
      Calls Try.prog 9 #[.pointer (some ⟨g, 0, none⟩), .agg #[.int .u16 n, .int .u8 st, .int .i64 i], .int .u16 fr, .int .i64 now] w fun e w' => e = .returned (.bool false) ∧ w.grownBy w' (some g) ∧ IsH w' g h := by
    intro C hC hc
    refine hc.mono ?_
    intro e w' he
    obtain ⟨h1, h2⟩ := hC e w' he
    exact ⟨h1, grown_of_below h2 _, H.below h2 H.lt⟩
  by_cases hm : susMay h n st i fr now
  · obtain ⟨rfl, m1, m2, m3, m4, m5, m6, m7⟩ := id hm
    obtain ⟨k, rfl⟩ : ∃ k : Nat, n = (k : Int) := ⟨n.toNat, by omega⟩
    obtain ⟨f, rfl⟩ : ∃ f : Nat, fr = (f : Int) := ⟨fr.toNat, by omega⟩
    have hk : k < 64 := by omega
    have hf : f < 64 := by omega
    unfold susp
    rw [if_pos hm, Int.toNat_natCast, Int.toNat_natCast]
    cases hs : h.s k with
    | none => exact sus_none g h k f i now w H HO.ok hk hf m3 ⟨m4, m5⟩ ⟨m6, m7⟩ hs
    | some x =>
      have hx := HO.su k x hs
      simp only
      by_cases h1 : x.i < i
      · rw [if_pos h1]
        exact sus_low g h k f i now w H HO.ok hk hf m3 ⟨m4, m5⟩ ⟨m6, m7⟩ x hs h1
      · rw [if_neg h1]
        by_cases h2 : i < x.i
        · rw [if_pos (.inl h2)]
          exact no (fun e w' q => q) (sus_old g h k f i now w H HO.ok hk hf m3 ⟨m4, m5⟩ ⟨m6, m7⟩ x hs hx h2)
        · by_cases h3 : x.w / 2 ^ f % 2 = 1
          · rw [if_pos (.inr (.inl h3))]
            exact no (fun e w' q => q) (sus_twice g h k f i now w H HO.ok hk hf m3 ⟨m4, m5⟩ ⟨m6, m7⟩ x hs hx (by omega) h3)
          · by_cases h4 : h.cf < (He.ones x.w : Int)
            · rw [if_pos (.inr (.inr h4))]
              exact no (fun e w' q => q) (sus_full g h k f i now w H HO.ok hk hf m3 ⟨m4, m5⟩ ⟨m6, m7⟩ x hs hx (by omega) (by omega) h4)
            · rw [if_neg (by simp only [not_or]; exact ⟨h2, h3, h4⟩)]
              exact sus_more g h k f i now w H HO.ok hk hf m3 ⟨m4, m5⟩ ⟨m6, m7⟩ x hs (by omega) hx (by omega) (by omega)
  · unfold susp
    rw [if_neg hm]
    unfold susMay at hm
    by_cases h1 : st = 1
    · subst h1
      by_cases h2 : n < 64 ∧ fr < 64
      · by_cases h3 : n = h.me
        · exact no (fun e w' q => q) (susr_self g h n fr i now w H h2 h3)
        · by_cases h4 : i < 0
          · exact no (fun e w' q => q) (susr_low g h n fr i now w H h2 h3 h4)
          · by_cases h5 : 1073741824 < i
            · exact no (fun e w' q => q) (susr_high g h n fr i now w H h2 h3 h5 (by omega))
            · exact no (fun e w' q => q) (susr_time g h n fr i now w H h2 h3 ⟨by omega, by omega⟩ (fun q => hm ⟨rfl, h2.1, h2.2, h3, by omega, by omega, q.1, q.2⟩))
      · exact no (fun e w' q => q) (susr_far g h n fr i now w H (by omega))
    · exact no (fun e w' q => q) (susr_state g h n fr i now st w H h1)

/-- Behind Suspect a health is as it may be. -/
theorem susp_ok (h : Hs) (n st i fr now : Int) (HO : HsOk h) (hn : 0 ≤ n) (hf : 0 ≤ fr) : HsOk (susp h n st i fr now).2 := by
  have at_ok : ∀ (k : Nat) (y : Su), SuOk h.cf y → HsOk (h.at_ k (some y)) := fun k y hy => ⟨⟨HO.ok.me, HO.ok.mn, HO.ok.mx, HO.ok.mx2, HO.ok.cf, HO.ok.sc⟩, fun j z hz => by
    unfold Hs.at_ at hz ⊢
    simp only at hz ⊢
    split at hz
    · injection hz with hz; subst hz; exact hy
    · exact HO.su j z hz⟩
  unfold susp
  by_cases hm : susMay h n st i fr now
  · rw [if_pos hm]
    obtain ⟨-, m1, m2, -, m4, m5, m6, m7⟩ := hm
    have hcf := HO.ok.cf
    have hlt : fr.toNat < 64 := by omega
    have hone : SuOk h.cf ⟨i, now, 2 ^ fr.toNat⟩ := by
      have h1 : He.ones (2 ^ fr.toNat) = 1 := ones_one hlt
      exact ⟨Nat.lt_of_lt_of_le (Nat.pow_lt_pow_right (by omega) hlt) (by decide), by simp only [h1]; omega, by simp only [h1]; omega, ⟨m6, m7⟩, ⟨m4, m5⟩⟩
    cases hs : h.s n.toNat with
    | none => exact at_ok _ _ hone
    | some x =>
      have hx := HO.su _ x hs
      simp only
      split
      · exact at_ok _ _ hone
      · split
        · exact HO
        · rename_i h1 h2
          simp only [not_or] at h2
          have hb : x.w / 2 ^ fr.toNat % 2 = 0 := by omega
          have h3 := ones_more hx.w hlt hb
          refine at_ok _ _ ⟨?_, ?_, ?_, hx.f, hx.i⟩
          · exact h3.2
          · simp only [h3.1]; omega
          · simp only [h3.1]; omega
  · rw [if_neg hm]; exact HO
end Go.Proofs.Ytadhcnfgbiokcaa
