/- WALKS: health's Clear. -/
import Derived.Test.YtadhcnfgbiokcaaHeSus5
namespace Go.Proofs.Ytadhcnfgbiokcaa
set_option linter.unusedVariables false
set_option linter.unusedSimpArgs false
open Go.RowKit
/-- Clear. -/
def clr (h : Hs) (n st i : Int) : Bool × Hs :=
  if n < 64 then
    match h.s n.toNat with
    | none => (false, h)
    | some x => if i < x.i ∨ (x.i = i ∧ ¬ st = 2) then (false, h) else (true, h.at_ n.toNat none)
  else (false, h)
theorem clr_ok (h : Hs) (n st i : Int) (HO : HsOk h) : HsOk (clr h n st i).2 := by
  unfold clr
  split
  · split
    · exact HO
    · split
      · exact HO
      · refine ⟨⟨HO.ok.me, HO.ok.mn, HO.ok.mx, HO.ok.mx2, HO.ok.cf, HO.ok.sc⟩, fun j z hz => ?_⟩
        unfold Hs.at_ at hz ⊢
        simp only at hz ⊢
        split at hz
        · cases hz
        · exact HO.su j z hz
  · exact HO
set_option maxRecDepth 100000 in
set_option maxHeartbeats 1000000 in
theorem clear_any (g : Nat) (h : Hs) (n st i : Int) (w : World) (H : IsH w g h) (hn : 0 ≤ n) :
    Calls Try.prog 15 #[.pointer (some ⟨g, 0, none⟩), .agg #[.int .u16 n, .int .u8 st, .int .i64 i]] w fun e w' => e = .returned (.bool (clr h n st i).1) ∧ w.grownBy w' (some g) ∧ IsH w' g (clr h n st i).2 := by
  have fin : ∀ W : World, Below w.heap.size w W → w.grownBy W (some g) ∧ IsH W g h   := fun W hb => ⟨grown_of_below hb _, H.below hb H.lt⟩
  have FIN := Lib.hid fin
  clear fin
  have hlt := H.lt
  unfold clr
  by_cases h64 : n < 64
  · rw [if_pos h64]
    obtain ⟨k, rfl⟩ : ∃ k : Nat, n = (k : Int) := ⟨n.toNat, by omega⟩
    rw [Int.toNat_natCast]
    have hk : k < 64 := by omega
    have d0 := H.cell k 0 hk (by omega)
    have d1 := H.cell k 1 hk (by omega)
    have d2 := H.cell k 2 hk (by omega)
    have d3 := H.cell k 3 hk (by omega)
    have hf0 := H.frozen
    have HH := Lib.hid H
    clear H
    cases hs : h.s k with
    | none =>
      rw [hs] at d0 d1 d2 d3
      simp only [su, List.getElem?_cons_zero, List.getElem?_cons_succ, Nat.add_zero] at d0 d1 d2 d3
      clear hs
      go_enter Try.func15, Try.ntmps15
      go_wp2
      go_quiet (fail)
      go_wp2
      go_quiet (fail)
      go_wp2
      go_ret
      exact ⟨rfl, FIN.out _ (below_drewN (below_drewN ((Below.refl _ _).alloc (Nat.le_refl _) _) _) _)⟩
    | some x =>
      rw [hs] at d0 d1 d2 d3
      simp only [su, List.getElem?_cons_zero, List.getElem?_cons_succ, Nat.add_zero] at d0 d1 d2 d3
      have HS := Lib.hid hs
      clear hs
      simp only
      by_cases h1 : i < x.i
      · rw [if_pos (.inl h1)]
        go_enter Try.func15, Try.ntmps15
        go_wp2
        go_quiet (fail)
        go_wp2
        go_quiet (fail)
        go_wp2
        go_ret
        exact ⟨rfl, FIN.out _ (below_drewN (below_drewN ((Below.refl _ _).alloc (Nat.le_refl _) _) _) _)⟩
      · by_cases h2 : x.i = i
        · by_cases h3 : st = 2
          · rw [if_neg (by simp only [not_or, not_and]; exact ⟨h1, fun _ q => q h3⟩)]
            subst h3
            subst h2
            go_enter Try.func15, Try.ntmps15
            go_wp2
            go_quiet (fail)
            go_wp2
            go_quiet (fail)
            go_wp2
            go_ret
            refine ⟨rfl, ?_, ?_⟩
            · exact grown_setCell (g := g) (grown_setCell (g := g) (grown_setCell (g := g) (grown_setCell (g := g) (grown_drewN (grown_alloc (grown_of_below (Below.refl _ w) (some g)) _) _) (.inl rfl) _) (.inl rfl) _) (.inl rfl) _) (.inl rfl) _
            · exact ((HH.out.alloc _).drewN _).set_ k hk none _ _ _ _ rfl
          · rw [if_pos (.inr ⟨h2, h3⟩)]
            subst h2
            go_enter Try.func15, Try.ntmps15
            go_wp2
            go_quiet (fail)
            go_wp2
            go_quiet (fail)
            go_wp2
            go_ret
            exact ⟨rfl, FIN.out _ (below_drewN (below_drewN ((Below.refl _ _).alloc (Nat.le_refl _) _) _) _)⟩
        · rw [if_neg (by simp only [not_or, not_and]; exact ⟨h1, fun q => absurd q h2⟩)]
          have h4 : x.i < i := by omega
          have h5 : (x.i == i) = false := by simpa using h2
          go_enter Try.func15, Try.ntmps15
          go_wp2
          go_quiet (fail)
          go_wp2
          go_quiet (fail)
          go_wp2
          go_ret
          refine ⟨rfl, ?_, ?_⟩
          · exact grown_setCell (g := g) (grown_setCell (g := g) (grown_setCell (g := g) (grown_setCell (g := g) (grown_drewN (grown_alloc (grown_of_below (Below.refl _ w) (some g)) _) _) (.inl rfl) _) (.inl rfl) _) (.inl rfl) _) (.inl rfl) _
          · exact ((HH.out.alloc _).drewN _).set_ k hk none _ _ _ _ rfl
  · rw [if_neg h64]
    have c0 := H.head 0 (by omega)
    clear H c0
    go_enter Try.func15, Try.ntmps15
    go_wp2
    go_ret
    exact ⟨rfl, FIN.out _ ((Below.refl _ _).alloc (Nat.le_refl _) _)⟩
end Go.Proofs.Ytadhcnfgbiokcaa
