/- WALKS: New where it may not be; the document's New, Bump. -/
import Derived.Test.YtadhcnfgbiokcaaHeRefA
namespace Go.Proofs.Ytadhcnfgbiokcaa
set_option linter.unusedVariables false
set_option linter.unusedSimpArgs false
open Go.RowKit
/-- What New answers. -/
def newErr (me mn mx cf : Int) : Int := if 64 ≤ me ∨ cf < 0 ∨ 16 < cf then 2 else if mn < 1 ∨ mx < mn ∨ 1073741824 < mx then 13 else 0
set_option maxRecDepth 100000 in
set_option maxHeartbeats 2000000 in
theorem new_no (me mn mx cf : Int) (w : World) (h : ¬ newErr me mn mx cf = 0) :
    Calls Try.prog 8 #[.int .u16 me, .agg #[.int .i64 mn, .int .i64 mx, .int .i64 cf]] w fun e w' => e = .returned (.tuple #[.pointer none, .int .i64 (newErr me mn mx cf)]) ∧ Below w.heap.size w w' := by
  have E2 : (64 ≤ me ∨ cf < 0 ∨ 16 < cf) → newErr me mn mx cf = 2 := fun h => by unfold newErr; rw [if_pos h]
  have E13 : ¬ (64 ≤ me ∨ cf < 0 ∨ 16 < cf) → (mn < 1 ∨ mx < mn ∨ 1073741824 < mx) → newErr me mn mx cf = 13 := fun h g => by unfold newErr; rw [if_neg h, if_pos g]
  have E0 : ¬ (64 ≤ me ∨ cf < 0 ∨ 16 < cf) → ¬ (mn < 1 ∨ mx < mn ∨ 1073741824 < mx) → newErr me mn mx cf = 0 := fun h g => by unfold newErr; rw [if_neg h, if_neg g]
  by_cases h1 : 64 ≤ me
  · rw [E2 (.inl h1)]
    clear E2 E13 E0 h
    go_enter Try.func8, Try.ntmps8
    go_wp2
    refine bodyPost_ret (v := .tuple #[.pointer none, .int .i64 2]) (by simp [results, Try.results8, go_sem]) rfl ⟨rfl, (Below.refl _ _).alloc (Nat.le_refl _) _⟩
  · by_cases h2 : cf < 0
    · rw [E2 (.inr (.inl h2))]
      clear E2 E13 E0 h
      go_enter Try.func8, Try.ntmps8
      go_wp2
      refine bodyPost_ret (v := .tuple #[.pointer none, .int .i64 2]) (by simp [results, Try.results8, go_sem]) rfl ⟨rfl, (Below.refl _ _).alloc (Nat.le_refl _) _⟩
    · by_cases h3 : 16 < cf
      · rw [E2 (.inr (.inr h3))]
        clear E2 E13 E0 h
        go_enter Try.func8, Try.ntmps8
        go_wp2
        refine bodyPost_ret (v := .tuple #[.pointer none, .int .i64 2]) (by simp [results, Try.results8, go_sem]) rfl ⟨rfl, (Below.refl _ _).alloc (Nat.le_refl _) _⟩
      · have hn : ¬ (64 ≤ me ∨ cf < 0 ∨ 16 < cf) := by omega
        by_cases h4 : mn < 1
        · rw [E13 hn (.inl h4)]
          clear E2 E13 E0 h hn
          go_enter Try.func8, Try.ntmps8
          go_wp2
          refine bodyPost_ret (v := .tuple #[.pointer none, .int .i64 13]) (by simp [results, Try.results8, go_sem]) rfl ⟨rfl, (Below.refl _ _).alloc (Nat.le_refl _) _⟩
        · by_cases h5 : mx < mn
          · rw [E13 hn (.inr (.inl h5))]
            clear E2 E13 E0 h hn
            go_enter Try.func8, Try.ntmps8
            go_wp2
            refine bodyPost_ret (v := .tuple #[.pointer none, .int .i64 13]) (by simp [results, Try.results8, go_sem]) rfl ⟨rfl, (Below.refl _ _).alloc (Nat.le_refl _) _⟩
          · by_cases h6 : 1073741824 < mx
            · rw [E13 hn (.inr (.inr h6))]
              clear E2 E13 E0 h hn
              go_enter Try.func8, Try.ntmps8
              go_wp2
              refine bodyPost_ret (v := .tuple #[.pointer none, .int .i64 13]) (by simp [results, Try.results8, go_sem]) rfl ⟨rfl, (Below.refl _ _).alloc (Nat.le_refl _) _⟩
            · exact absurd (E0 hn (by omega)) h
def rzero : Rs := ⟨0, 0, 0, 0, 0, []⟩
/-- The document's New. -/
def rnewVal (me mn mx cf : Int) : Value := .tuple #[hval (if newErr me mn mx cf = 0 then rnew me mn mx cf else rzero) none 0 0, .int .i64 (newErr me mn mx cf)]
set_option maxRecDepth 100000 in
set_option maxHeartbeats 4000000 in
theorem rnew_any (me mn mx cf : Int) (w : World) :
    Calls Try.prog 18 #[.int .u16 me, .agg #[.int .i64 mn, .int .i64 mx, .int .i64 cf]] w fun e w' => e = .returned (rnewVal me mn mx cf) ∧ Below w.heap.size w w' := by
  have E2 : (64 ≤ me ∨ cf < 0 ∨ 16 < cf) → newErr me mn mx cf = 2 := fun h => by unfold newErr; rw [if_pos h]
  have E13 : ¬ (64 ≤ me ∨ cf < 0 ∨ 16 < cf) → (mn < 1 ∨ mx < mn ∨ 1073741824 < mx) → newErr me mn mx cf = 13 := fun h g => by unfold newErr; rw [if_neg h, if_pos g]
  have E0 : ¬ (64 ≤ me ∨ cf < 0 ∨ 16 < cf) → ¬ (mn < 1 ∨ mx < mn ∨ 1073741824 < mx) → newErr me mn mx cf = 0 := fun h g => by unfold newErr; rw [if_neg h, if_neg g]
  have V2 : newErr me mn mx cf = 2 → rnewVal me mn mx cf = .tuple #[.agg #[.int .u16 0, .int .i64 0, .int .i64 0, .int .i64 0, .int .i64 0, .slice none 0 0], .int .i64 2] := fun h => by unfold rnewVal; rw [h, if_neg (by omega)]; rfl
  have V13 : newErr me mn mx cf = 13 → rnewVal me mn mx cf = .tuple #[.agg #[.int .u16 0, .int .i64 0, .int .i64 0, .int .i64 0, .int .i64 0, .slice none 0 0], .int .i64 13] := fun h => by unfold rnewVal; rw [h, if_neg (by omega)]; rfl
  have V0 : newErr me mn mx cf = 0 → rnewVal me mn mx cf = .tuple #[.agg #[.int .u16 me, .int .i64 mn, .int .i64 mx, .int .i64 cf, .int .i64 0, .slice none 0 0], .int .i64 0] := fun h => by unfold rnewVal; rw [h, if_pos rfl]; rfl
  have hK : ∀ W, Below w.heap.size w W → Below w.heap.size w W := fun W h => h
  have K2 := Lib.hid (((Below.refl _ w).alloc (Nat.le_refl _) (.cells #[.int .i64 mn, .int .i64 mx, .int .i64 cf] 49)).alloc (by simp) (.cells #[.int .u16 0, .int .i64 0, .int .i64 0, .int .i64 0, .int .i64 0, .slice none 0 0] 53))
  have B2 := Lib.hid (Blk.new (w.alloc (.cells #[.int .i64 mn, .int .i64 mx, .int .i64 cf] 49)) 53 #[.int .u16 0, .int .i64 0, .int .i64 0, .int .i64 0, .int .i64 0, .slice none 0 0])
  clear hK
  have hs1 : (w.alloc (.cells #[.int .i64 mn, .int .i64 mx, .int .i64 cf] 49)).heap.size = w.heap.size + 1 := by simp
  rw [hs1] at B2
  by_cases h1 : 64 ≤ me ∨ cf < 0 ∨ 16 < cf
  · rw [V2 (E2 h1)]
    clear E2 E13 E0 V2 V13 V0
    have hh : 64 ≤ me ∨ (¬ 64 ≤ me ∧ cf < 0) ∨ (¬ 64 ≤ me ∧ ¬ cf < 0 ∧ 16 < cf) := by omega
    clear h1
    rcases hh with h1 | ⟨h1, h2⟩ | ⟨h1, h2, h3⟩
    all_goals
      go_enter Try.func18, Try.ntmps18
      go_wp2
      refine bodyPost_ret (v := .tuple #[.agg #[.int .u16 0, .int .i64 0, .int .i64 0, .int .i64 0, .int .i64 0, .slice none 0 0], .int .i64 2]) (by simp [results, Try.results18, go_sem]) rfl ⟨rfl, K2.out⟩
  · by_cases h4 : mn < 1 ∨ mx < mn ∨ 1073741824 < mx
    · rw [V13 (E13 h1 h4)]
      clear E2 E13 E0 V2 V13 V0
      have hh : mn < 1 ∨ (¬ mn < 1 ∧ mx < mn) ∨ (¬ mn < 1 ∧ ¬ mx < mn ∧ 1073741824 < mx) := by omega
      clear h4
      have a1 : ¬ 64 ≤ me := by omega
      have a2 : ¬ cf < 0 := by omega
      have a3 : ¬ 16 < cf := by omega
      clear h1
      rcases hh with h1 | ⟨h1, h2⟩ | ⟨h1, h2, h3⟩
      all_goals
        go_enter Try.func18, Try.ntmps18
        go_wp2
        refine bodyPost_ret (v := .tuple #[.agg #[.int .u16 0, .int .i64 0, .int .i64 0, .int .i64 0, .int .i64 0, .slice none 0 0], .int .i64 13]) (by simp [results, Try.results18, go_sem]) rfl ⟨rfl, K2.out⟩
    · rw [V0 (E0 h1 h4)]
      clear E2 E13 E0 V2 V13 V0
      have a1 : ¬ 64 ≤ me := by omega
      have a2 : ¬ cf < 0 := by omega
      have a3 : ¬ 16 < cf := by omega
      have a4 : ¬ mn < 1 := by omega
      have a5 : ¬ mx < mn := by omega
      have a6 : ¬ 1073741824 < mx := by omega
      clear h1 h4
      go_enter Try.func18, Try.ntmps18
      go_wp2
      refine bodyPost_ret (v := .tuple #[.agg #[.int .u16 me, .int .i64 mn, .int .i64 mx, .int .i64 cf, .int .i64 0, .slice none 0 0], .int .i64 0]) (by simp [results, Try.results18, go_sem]) rfl ⟨rfl, ((Below.refl _ w).alloc (Nat.le_refl _) _).alloc (by simp) _⟩
end Go.Proofs.Ytadhcnfgbiokcaa
