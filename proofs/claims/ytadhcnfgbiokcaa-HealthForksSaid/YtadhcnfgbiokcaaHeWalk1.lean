/- WALKS: health's time, within, Score, Wait, Bump, New. -/
import Derived.Test.YtadhcnfgbiokcaaHeWords
import Derived.Deep.DeepCutAuto
import Derived.Deep.RegionWith
namespace Go.Proofs.Ytadhcnfgbiokcaa
set_option linter.unusedVariables false
set_option linter.unusedSimpArgs false
open Go.RowKit

theorem time_any (t : Int) (w : World) : Calls Try.prog 23 #[.int .i64 t] w fun e w' => e = .returned (.bool (decide (0 ≤ t) && decide (t ≤ 1099511627776))) ∧ Below w.heap.size w w' := by
  go_enter Try.func23, Try.ntmps23
  by_cases h1 : 0 ≤ t <;> by_cases h2 : t ≤ 1099511627776
  all_goals
    go_wp2
    go_ret
    exact ⟨ret_bool (by simp [h1, h2]), Below.refl _ _⟩

theorem within_any (n lo hi : Int) (w : World) (h : lo ≤ hi) : Calls Try.prog 26 #[.int .i64 n, .int .i64 lo, .int .i64 hi] w fun e w' => e = .returned (.int .i64 (max lo (min n hi))) ∧ Below w.heap.size w w' := by
  have fin : ∀ x, x = max lo (min n hi) → Ending.returned (.int .i64 x) = Ending.returned (.int .i64 (max lo (min n hi))) := fun x e => by rw [e]
  go_enter Try.func26, Try.ntmps26
  by_cases c1 : hi < n
  · by_cases c2 : hi < lo
    · omega
    · by_cases c3 : lo < hi
      · go_wp2
        go_ret
        exact ⟨fin _ (by omega), Below.refl _ _⟩
      · go_wp2
        all_goals
          go_ret
          exact ⟨fin _ (by omega), Below.refl _ _⟩
  · by_cases c2 : n < lo
    · go_wp2
      all_goals
        go_ret
        exact ⟨fin _ (by omega), Below.refl _ _⟩
    · go_wp2
      all_goals
        go_ret
        exact ⟨fin _ (by omega), Below.refl _ _⟩

theorem score_any (g : Nat) (h : Hs) (w : World) (H : IsH w g h) : Calls Try.prog 14 #[.pointer (some ⟨g, 0, none⟩)] w fun e w' => e = .returned (.int .i64 h.sc) ∧ Below w.heap.size w w' := by
  have c4 := H.head 4 (by omega)
  simp only [hhead, List.getElem?_cons_zero, List.getElem?_cons_succ] at c4
  go_enter Try.func14, Try.ntmps14
  go_wp2
  go_ret
  exact ⟨rfl, Below.refl _ _⟩

theorem wait_any (g : Nat) (h : Hs) (b : Int) (w : World) (H : IsH w g h) (hs : 0 ≤ h.sc ∧ h.sc ≤ 8) :
    Calls Try.prog 22 #[.pointer (some ⟨g, 0, none⟩), .int .i64 b] w fun e w' => e = .returned (.int .i64 (if 0 ≤ b ∧ b ≤ 1099511627776 then b * (h.sc + 1) else 0)) ∧ Below w.heap.size w w' := by
  have c4 := H.head 4 (by omega)
  simp only [hhead, List.getElem?_cons_zero, List.getElem?_cons_succ] at c4
  have hlt := H.lt
  have HH := Lib.hid H
  clear H
  obtain ⟨me, mn, mx, cf, sc, s⟩ := h
  simp only at hs c4 ⊢
  obtain ⟨s0, s1⟩ := hs
  go_enter Try.func22, Try.ntmps22
  go_wp2_with fail
  refine (time_any b _).mono ?_
  rintro e w1 ⟨rfl, hb⟩
  have c4' := (hb.cell (p := ⟨g, 4, none⟩) hlt).trans c4
  have HB := Lib.hid hb
  clear hb c4
  by_cases h : 0 ≤ b ∧ b ≤ 1099511627776
  · rw [show (decide (0 ≤ b) && decide (b ≤ 1099511627776)) = true by simp [h.1, h.2]]
    have b0 := h.1
    have b1 := h.2
    have hm : sc = 0 ∨ sc = 1 ∨ sc = 2 ∨ sc = 3 ∨ sc = 4 ∨ sc = 5 ∨ sc = 6 ∨ sc = 7 ∨ sc = 8 := by omega
    rcases hm with rfl | rfl | rfl | rfl | rfl | rfl | rfl | rfl | rfl
    all_goals
      go_wp2
      go_ret
      exact ⟨by first | rfl | (rw [if_pos h]; rfl) | (rw [if_pos h]; simp), HB.out⟩
  · rw [show (decide (0 ≤ b) && decide (b ≤ 1099511627776)) = false by simp; omega]
    go_wp2
    go_ret
    exact ⟨by first | rfl | (rw [if_neg h]; rfl), HB.out⟩

def h00 : Hs := ⟨0, 0, 0, 0, 0, fun _ => none⟩
theorem zero69 (w : World) : (zeroValue 69).run Try.prog w = .ok (.agg (hcells h00)) w := by kernel_rfl
theorem hcells_new (me mn mx cf : Int) : ((((hcells h00).setIfInBounds 0 (.int .u16 me)).setIfInBounds 1 (.int .i64 mn)).setIfInBounds 2 (.int .i64 mx)).setIfInBounds 3 (.int .i64 cf) = hcells ⟨me, mn, mx, cf, 0, fun _ => none⟩ := by
  apply Array.ext_getElem?
  intro i
  simp only [Array.getElem?_setIfInBounds, hcells_size, Array.size_setIfInBounds]
  by_cases hi : i < 261
  · rcases idx261 hi with hi | ⟨q, j, hq, hj, rfl⟩
    · rw [hcells_head _ _ hi, hcells_head _ _ hi]
      rcases (show i = 0 ∨ i = 1 ∨ i = 2 ∨ i = 3 ∨ i = 4 by omega) with rfl | rfl | rfl | rfl | rfl <;> simp [hhead, h00]
    · rw [if_neg (by omega), if_neg (by omega), if_neg (by omega), if_neg (by omega), hcells_at _ q j hq hj, hcells_at _ q j hq hj]
      rfl
  · rw [if_neg (by omega), if_neg (by omega), if_neg (by omega), if_neg (by omega), Array.getElem?_eq_none (by rw [hcells_size]; omega), Array.getElem?_eq_none (by rw [hcells_size]; omega)]

set_option maxRecDepth 100000 in
set_option maxHeartbeats 1000000 in
theorem new_any (me mn mx cf : Int) (w : World) (h1 : 0 ≤ me ∧ me < 64) (h2 : 0 ≤ cf ∧ cf ≤ 16) (h3 : 1 ≤ mn ∧ mn ≤ mx ∧ mx ≤ 1073741824) :
    Calls Try.prog 8 #[.int .u16 me, .agg #[.int .i64 mn, .int .i64 mx, .int .i64 cf]] w fun e w' => ∃ g, e = .returned (.tuple #[.pointer (some ⟨g, 0, none⟩), .int .i64 0]) ∧ Below w.heap.size w w' ∧ w.heap.size ≤ g ∧ IsH w' g ⟨me, mn, mx, cf, 0, fun _ => none⟩ := by
  obtain ⟨a0, a1⟩ := h1
  obtain ⟨b0, b1⟩ := h2
  obtain ⟨c0, c1, c2⟩ := h3
  have hz := fun w => zero69 w
  have hnew := hcells_new me mn mx cf
  have hsz := hcells_size h00
  generalize hcells h00 = Z at *
  have hne : ¬ Z = #[] := fun e => by rw [e] at hsz; simp at hsz
  have HN := Lib.hid hnew
  clear hnew
  go_enter Try.func8, Try.ntmps8
  go_wp2
  rw [HN.out]
  refine bodyPost_ret (v := .tuple #[.pointer (some ⟨w.heap.size + 1, 0, none⟩), .int .i64 0]) (by simp [results, Try.results8, go_sem]) rfl ⟨w.heap.size + 1, rfl, ((Below.refl _ _).alloc (Nat.le_refl _) _).alloc (by simp) _, by omega, ?_⟩
  have := Blk.new (w.alloc (.cells #[.int .i64 mn, .int .i64 mx, .int .i64 cf] 29)) 69 (hcells ⟨me, mn, mx, cf, 0, fun _ => none⟩)
  rwa [show (w.alloc (.cells #[.int .i64 mn, .int .i64 mx, .int .i64 cf] 29)).heap.size = w.heap.size + 1 by simp] at this

theorem wraps_i64' (n : Int) (h0 : -9223372036854775808 ≤ n) (h1 : n ≤ 9223372036854775807) : IntKind.i64.wrap n = n := by rw [IntKind.wrap_i64]; omega
/-- The score behind a bump. -/
def bumped (sc b : Int) : Int := max 0 (min (sc + max (-8) (min b 8)) 8)

set_option maxRecDepth 100000 in
set_option maxHeartbeats 1000000 in
theorem bump_any (g : Nat) (h : Hs) (b : Int) (w : World) (H : IsH w g h) (hs : 0 ≤ h.sc ∧ h.sc ≤ 8) :
    Calls Try.prog 13 #[.pointer (some ⟨g, 0, none⟩), .int .i64 b] w fun e w' => e = .returned (.int .i64 (bumped h.sc b)) ∧ w.grownBy w' (some g) ∧ IsH w' g { h with sc := bumped h.sc b } := by
  have c4 := H.head 4 (by omega)
  simp only [hhead, List.getElem?_cons_zero, List.getElem?_cons_succ] at c4
  have hlt := H.lt
  have hf := H.frozen
  have HH := Lib.hid H
  clear H
  obtain ⟨s0, s1⟩ := hs
  obtain ⟨sc, hsc⟩ : ∃ sc, h.sc = sc := ⟨_, rfl⟩
  rw [hsc] at s0 s1 c4 ⊢
  obtain ⟨q, hq⟩ : ∃ q, max (-8) (min b 8) = q := ⟨_, rfl⟩
  have q0 : -8 ≤ q := by omega
  have q1 : q ≤ 8 := by omega
  obtain ⟨r, hr⟩ : ∃ r, bumped sc b = r := ⟨_, rfl⟩
  have hr2 : max 0 (min (sc + q) 8) = r := by rw [← hr]; unfold bumped; rw [hq]
  rw [hr]
  have hwr : IntKind.i64.wrap (sc + q) = sc + q := wraps_i64' _ (by omega) (by omega)
  have HQ := Lib.hid hq
  have HR2 := Lib.hid hr2
  clear hq hr2 hr hsc
  go_enter Try.func13, Try.ntmps13
  go_wp2
  go_region_with (first
      | (go_at_call_of 26 (Value.int .i64 b); refine (within_any b (-8) 8 _ (by omega)).mono ?_; rw [HQ.out]; rintro e w1 ⟨rfl, hb⟩; have B1 : Below w.heap.size w w1 := (Below.refl _ w).drew.trans hb; have c1 := (B1.cell (p := ⟨g, 4, none⟩) hlt).trans c4; have K1 := Lib.hid B1; have l1 := B1.size; clear hb B1)
      | (go_at_call_of 26 (Value.int .i64 (sc + q)); refine (within_any (sc + q) 0 8 _ (by omega)).mono ?_; rw [HR2.out]; rintro e w2 ⟨rfl, hb⟩; have B2 : Below w.heap.size w w2 := below_then K1.out l1 hb; have c2 := (B2.cell (p := ⟨g, 4, none⟩) hlt).trans c4; have d2 := (B2.frozen (p := ⟨g, 4, none⟩) hlt).trans (hf 4); have K2 := Lib.hid B2; clear hb B2))
  all_goals
    have H2 := HH.out.below K2.out hlt
    have H3 := H2.score r
    have e4 := H3.head 4 (by omega)
    simp only [hhead, List.getElem?_cons_zero, List.getElem?_cons_succ] at e4
    have HS := Lib.hid H3
    clear H2 H3
    go_wp2
    go_ret
    exact ⟨rfl, grown_setCell (g := g) (grown_of_below K2.out (some g)) (.inl rfl) _, HS.out⟩

end Go.Proofs.Ytadhcnfgbiokcaa
