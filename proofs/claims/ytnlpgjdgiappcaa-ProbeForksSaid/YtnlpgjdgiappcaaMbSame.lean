/- WALK: watchfireref13.SameMembers tells whether two lists of members are one. -/
import Derived.Test.YtnlpgjdgiappcaaMbWalk3
namespace Go.Proofs.Ytnlpgjdgiappcaa
set_option linter.unusedVariables false
set_option linter.unusedSimpArgs false
open Go.RowKit

theorem m_ne {x y : Pl.M} (h : x ≠ y) : (x.n == y.n) = false ∨ ((x.n == y.n) = true ∧ (x.s == y.s) = false) ∨ ((x.n == y.n) = true ∧ (x.s == y.s) = true ∧ (x.i == y.i) = false) := by
  obtain ⟨a, b, c⟩ := x
  obtain ⟨a', b', c'⟩ := y
  by_cases h1 : a = a'
  · by_cases h2 : b = b'
    · by_cases h3 : c = c'
      · exact absurd (by rw [h1, h2, h3]) h
      · exact .inr (.inr ⟨by simpa using h1, by simpa using h2, by simpa using h3⟩)
    · exact .inr (.inl ⟨by simpa using h1, by simpa using h2⟩)
  · exact .inl (by simpa using h1)

theorem take_ext {α : Type} (a b : List α) (k : Nat) (x : α) (h : a.take k = b.take k) (ha : a[k]? = some x) (hb : b[k]? = some x) : a.take (k + 1) = b.take (k + 1) := by
  rw [take_one a k x ha, take_one b k x hb, h]

set_option maxRecDepth 100000 in
set_option maxHeartbeats 1000000 in
theorem same_any (A B : Option Addr) (c d : Nat) (a b : List Pl.M) (w : World) (ha : ReadsM w (fun _ => True) A a) (hb : ReadsM w (fun _ => True) B b) (hla : a.length ≤ 65536) (hlb : b.length ≤ 65536) :
    Calls Try.prog 23 #[.slice A a.length c, .slice B b.length d] w fun e w' => e = .returned (.bool (decide (a = b))) ∧ Below w.heap.size w w' := by
  by_cases hl : a.length = b.length
  · have h1 : ((a.length : Int) != (b.length : Int)) = false := by simp; omega
    have HL := Lib.hid hl
    clear hl
    go_enter Try.func23, Try.ntmps23
    go_wp2
    go_loopw [5] (fun i wr => ∃ k : Nat, k ≤ a.length ∧ i = .int .i64 k ∧ a.take k = b.take k ∧ Below w.heap.size w wr) (fun i _ => a.length - (intOf i).toNat)
    case atStart => exact ⟨0, Nat.zero_le _, rfl, by simp, Below.refl _ _⟩
    case round =>
      obtain ⟨k, hk, rfl, ht, hbw⟩ := hrel
      by_cases hlt : k < a.length
      · obtain ⟨x, hx⟩ : ∃ x, a[k]? = some x := ⟨a[k], List.getElem?_eq_getElem hlt⟩
        have hltb : k < b.length := by rw [← HL.out]; exact hlt
        obtain ⟨y, hy⟩ : ∃ y, b[k]? = some y := ⟨b[k], List.getElem?_eq_getElem hltb⟩
        have ra : ReadsM wr (fun _ => True) A a := ha.below (by omega) hbw
        have rb : ReadsM wr (fun _ => True) B b := hb.below (by omega) hbw
        obtain ⟨p, o, rfl, _, c0, c1, c2⟩ := ra.at_ k x hx
        obtain ⟨p', o', rfl, _, d0, d1, d2⟩ := rb.at_ k y hy
        have hltI : (k : Int) < (a.length : Int) := by omega
        have hltIb : (k : Int) < (b.length : Int) := by omega
        have hge : (0 : Int) ≤ (k : Int) := by omega
        have HA := Lib.hid ha
        have HB := Lib.hid hb
        have HT := Lib.hid ht
        have HW := Lib.hid hbw
        have HX := Lib.hid hx
        have HY := Lib.hid hy
        clear ha hb ra rb ht hbw hx hy
        by_cases hxy : x = y
        · subst hxy
          go_wp2
          go_quiet (fail)
          go_wp2
          go_roundw
          case rel => exact ⟨k + 1, by omega, by go_num, take_ext a b k x HT.out HX.out HY.out, below_drewN HW.out _⟩
          case measure => simp [intOf]; omega
        · have hne := m_ne hxy
          have hab : ¬ a = b := fun e => hxy (by
            have h1 := HX.out
            rw [e, HY.out] at h1
            injection h1 with h1
            exact h1.symm)
          have HE := Lib.hid hab
          clear hxy hab
          rcases hne with e1 | ⟨e1, e2⟩ | ⟨e1, e2, e3⟩
          all_goals
            go_wp2
            go_quiet (fail)
            go_wp2
            go_ret
            exact ⟨ret_bool (by rw [decide_eq_false HE.out]), below_drewN HW.out _⟩
      · obtain rfl : k = a.length := by omega
        have hab : a = b := by
          rw [List.take_length] at ht
          rw [ht, HL.out, List.take_length]
        go_wp2
        go_ret
        exact ⟨ret_bool (by rw [decide_eq_true hab]), hbw⟩
  · have h1 : ((a.length : Int) != (b.length : Int)) = true := by simp; omega
    have hab : ¬ a = b := fun e => hl (by rw [e])
    have HE := Lib.hid hab
    clear hl hab
    go_enter Try.func23, Try.ntmps23
    go_wp2
    go_ret
    exact ⟨ret_bool (by rw [decide_eq_false HE.out]), Below.refl _ _⟩

end Go.Proofs.Ytnlpgjdgiappcaa
