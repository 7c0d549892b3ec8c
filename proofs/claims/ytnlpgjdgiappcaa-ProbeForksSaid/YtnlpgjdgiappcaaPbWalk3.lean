/- WALKS: probe's says, Watch. -/
import Derived.Test.YtnlpgjdgiappcaaPbWalk2
namespace Go.Proofs.Ytnlpgjdgiappcaa
set_option linter.unusedVariables false
set_option linter.unusedSimpArgs false
open Go.RowKit

theorem pmay_same (t least : Int) (w : World) : Calls Try.prog 51 #[.int .i64 t, .int .i64 least] w fun e w' => e = .returned (.bool (Pl.may t least)) ∧ w' = w := by
  go_enter Try.func51, Try.ntmps51
  unfold Pl.may
  by_cases h1 : least ≤ t <;> by_cases h2 : t ≤ 1099511627776
  all_goals
    go_wp2
    go_ret
    exact ⟨ret_bool (by simp [h1, h2]), rfl⟩

/-- A slice of one member at most, in a block of its own. -/
def OneM (w : World) (base : Nat) (v : Value) : Option Pl.M → Prop
  | none => v = .slice none 0 0
  | some x => ∃ b, v = .slice (some ⟨b, 0, none⟩) 1 1 ∧ base ≤ b ∧ Blk w b 25 (mcells x)

set_option maxRecDepth 100000 in
set_option maxHeartbeats 1000000 in
theorem says_any (g : Nat) (z : Int) (f : Pl.Tab) (m : Pl.M) (s : Int) (w : World) (hT : IsT w g z f) (hm : Pl.MOk ⟨m.n, s, m.i⟩) :
    Calls Try.prog 63 #[.pointer (some ⟨g, 0, none⟩), .agg (mcells m), .int .u8 s] w fun e w' =>
      ∃ v, e = .returned v ∧ OneM w' w.heap.size v (Pl.hear z f ⟨m.n, s, m.i⟩) ∧ w.grownBy w' (some g) ∧ IsT w' g z (Pl.heard z f ⟨m.n, s, m.i⟩) := by
  have hg := hT.lt
  have HT := Lib.hid hT
  clear hT
  unfold mcells
  go_enter Try.func63, Try.ntmps63
  go_wp2_with fail
  refine (hear_any g z f ⟨m.n, s, m.i⟩ _ (HT.out.alloc _) hm).mono ?_
  rintro e w1 ⟨rfl, hg1, hT1⟩
  have G1 : w.grownBy w1 (some g) := World.grownBy.trans (World.grownBy_alloc w _ _) hg1
  have hs1 : w.heap.size ≤ w1.heap.size := G1.size
  have HG := Lib.hid G1
  have H1 := Lib.hid hT1
  clear hg1 hT1 G1
  generalize hx : Pl.hear z f ⟨m.n, s, m.i⟩ = x at *
  have HX := Lib.hid hx
  clear hx
  cases x with
  | none =>
    simp only [heardVal, mzero, mcells]
    go_wp2
    go_ret
    exact ⟨_, rfl, by rw [HX.out]; exact rfl, grown_alloc HG.out _, H1.out.alloc _⟩
  | some x =>
    simp only [heardVal, mcells]
    go_wp2
    go_ret
    have HBK := Blk.new (w1.alloc (.cells #[.int .u16 x.n, .int .u8 x.s, .int .i64 x.i] 25)) 25 (mcells x)
    rw [show (w1.alloc (.cells #[.int .u16 x.n, .int .u8 x.s, .int .i64 x.i] 25)).heap.size = w1.heap.size + 1 by simp] at HBK
    refine ⟨_, rfl, by rw [HX.out]; refine ⟨w1.heap.size + 1, rfl, by omega, ?_⟩; exact HBK, grown_alloc (grown_alloc HG.out _) _, (H1.out.alloc _).alloc _⟩

set_option maxRecDepth 100000 in
set_option maxHeartbeats 1000000 in
theorem watch_any (g : Nat) (p : Pl.Pb) (m : Pl.M) (now : Int) (w : World) (H : IsPb w g p) (hm : Pl.MOk m) :
    Calls Try.prog 42 #[.pointer (some ⟨g, 0, none⟩), .agg (mcells m), .int .i64 now] w fun e w' => e = .returned (.tuple #[]) ∧ w.grownBy w' (some g) ∧ IsPb w' g (Pl.watch p m now) := by
  have hlt := H.lt
  have c0 := H.head 0 (by omega)
  simp only [phead, List.getElem?_cons_zero] at c0
  have fin : ∀ W : World, Below w.heap.size w W → w.grownBy W (some g) ∧ IsPb W g p := fun W hb => ⟨grown_of_below hb _, H.below hb H.lt⟩
  have FIN := Lib.hid fin
  have HH := Lib.hid H
  obtain ⟨n0, n1, s0, s1, i0, i1⟩ := hm
  clear fin
  unfold Pl.watch mcells
  obtain ⟨n, s, i⟩ := m
  simp only at n0 n1 s0 s1 i0 i1 ⊢
  by_cases h1 : s = 1
  · subst h1
    by_cases h2 : n < 64
    · obtain ⟨k, rfl⟩ : ∃ k : Nat, n = (k : Int) := ⟨n.toNat, by omega⟩
      have hk : k < 64 := by omega
      rw [Int.toNat_natCast]
      by_cases h3 : (k : Int) = p.me
      · rw [if_neg (fun h => h.2.2.1 h3)]
        rw [← h3] at c0
        clear H h3
        go_enter Try.func42, Try.ntmps42
        go_wp2
        go_quiet (fail)
        go_wp2
        first | (go_end0; exact ⟨rfl, FIN.out _ (below_drewN (below_drewN (below_drewN ((Below.refl _ _).alloc (Nat.le_refl _) _) _) _) _)⟩) | (refine bodyPost_ret (v := .tuple #[]) (results_none (by first | exact Try.results42 | rfl) _ _ _) rfl ?_; exact ⟨rfl, FIN.out _ (below_drewN ((Below.refl _ _).alloc (Nat.le_refl _) _) _)⟩)
      · have e3 : ((k : Int) == p.me) = false := beq_eq_false_iff_ne.2 h3
        cases hmay : Pl.may now 0 with
        | false =>
          rw [if_neg (fun h => by simp at h)]
          have hc := fun w => pmay_same now 0 w
          rw [hmay] at hc
          have HC := Lib.hid hc
          clear H h3 hmay hc
          go_enter Try.func42, Try.ntmps42
          go_wp2
          go_quiet ((go_at_call 51; exact Calls.quiet_of_same (HC.out _)))
          go_wp2
          first | (go_end0; exact ⟨rfl, FIN.out _ (below_drewN (below_drewN (below_drewN ((Below.refl _ _).alloc (Nat.le_refl _) _) _) _) _)⟩) | (refine bodyPost_ret (v := .tuple #[]) (results_none (by first | exact Try.results42 | rfl) _ _ _) rfl ?_; exact ⟨rfl, FIN.out _ (below_drewN ((Below.refl _ _).alloc (Nat.le_refl _) _) _)⟩)
        | true =>
          have hc := fun w => pmay_same now 0 w
          rw [hmay] at hc
          have HC := Lib.hid hc
          have d0 := H.cell k 0 hk (by omega)
          have d1 := H.cell k 1 hk (by omega)
          have d2 := H.cell k 2 hk (by omega)
          simp only [wa, List.getElem?_cons_zero, List.getElem?_cons_succ, Nat.add_zero] at d0 d1 d2
          have hf := H.frozen
          clear H hmay hc
          cases his : (p.w k).is with
          | false =>
            rw [if_pos ⟨rfl, h2, h3, rfl, .inl rfl⟩]
            rw [his] at d0
            clear his
            clear h3
            go_enter Try.func42, Try.ntmps42
            go_wp2
            go_quiet ((go_at_call 51; exact Calls.quiet_of_same (HC.out _)))
            go_wp2
            go_quiet (fail)
            go_wp2
            go_quiet (fail)
            go_wp2
            go_end0
            refine ⟨rfl, ?_, ?_⟩
            · exact grown_setCell (g := g) (grown_setCell (g := g) (grown_setCell (g := g) (grown_drewN (grown_alloc (grown_of_below (Below.refl _ w) (some g)) _) _) (.inl rfl) _) (.inl rfl) _) (.inl rfl) _
            · exact ((HH.out.alloc _).drewN _).watch k hk i now
          | true =>
            rw [his] at d0
            by_cases h5 : (p.w k).i < i
            · rw [if_pos ⟨rfl, h2, h3, rfl, .inr h5⟩]
              clear his
              clear h3
              go_enter Try.func42, Try.ntmps42
              go_wp2
              go_quiet ((go_at_call 51; exact Calls.quiet_of_same (HC.out _)))
              go_wp2
              go_quiet (fail)
              go_wp2
              go_quiet (fail)
              go_wp2
              go_end0
              refine ⟨rfl, ?_, ?_⟩
              · exact grown_setCell (g := g) (grown_setCell (g := g) (grown_setCell (g := g) (grown_drewN (grown_alloc (grown_of_below (Below.refl _ w) (some g)) _) _) (.inl rfl) _) (.inl rfl) _) (.inl rfl) _
              · exact ((HH.out.alloc _).drewN _).watch k hk i now
            · rw [if_neg (fun h => by rcases h.2.2.2.2 with h | h; · cases h
                                      · exact h5 h)]
              clear his h3
              have e5 : decide ((p.w k).i < i) = false := by simpa using h5
              go_enter Try.func42, Try.ntmps42
              go_wp2
              go_quiet ((go_at_call 51; exact Calls.quiet_of_same (HC.out _)))
              go_wp2
              go_quiet (fail)
              go_wp2
              go_quiet (fail)
              go_wp2
              first | (go_end0; exact ⟨rfl, FIN.out _ (below_drewN (below_drewN (below_drewN ((Below.refl _ _).alloc (Nat.le_refl _) _) _) _) _)⟩) | (refine bodyPost_ret (v := .tuple #[]) (results_none (by first | exact Try.results42 | rfl) _ _ _) rfl ?_; exact ⟨rfl, FIN.out _ (below_drewN ((Below.refl _ _).alloc (Nat.le_refl _) _) _)⟩)
    · rw [if_neg (fun h => h2 h.2.1)]
      clear H
      have e2 : decide (64 ≤ n) = true := by simp; omega
      go_enter Try.func42, Try.ntmps42
      go_wp2
      go_quiet (fail)
      go_wp2
      first | (go_end0; exact ⟨rfl, FIN.out _ (below_drewN (below_drewN (below_drewN ((Below.refl _ _).alloc (Nat.le_refl _) _) _) _) _)⟩) | (refine bodyPost_ret (v := .tuple #[]) (results_none (by first | exact Try.results42 | rfl) _ _ _) rfl ?_; exact ⟨rfl, FIN.out _ (below_drewN ((Below.refl _ _).alloc (Nat.le_refl _) _) _)⟩)
  · rw [if_neg (fun h => h1 h.1)]
    clear H
    have e1 : (s != 1) = true := by simpa using h1
    go_enter Try.func42, Try.ntmps42
    go_wp2
    go_quiet (fail)
    go_wp2
    first | (go_end0; exact ⟨rfl, FIN.out _ (below_drewN (below_drewN (below_drewN ((Below.refl _ _).alloc (Nat.le_refl _) _) _) _) _)⟩) | (refine bodyPost_ret (v := .tuple #[]) (results_none (by first | exact Try.results42 | rfl) _ _ _) rfl ?_; exact ⟨rfl, FIN.out _ (below_drewN ((Below.refl _ _).alloc (Nat.le_refl _) _) _)⟩)
end Go.Proofs.Ytnlpgjdgiappcaa
