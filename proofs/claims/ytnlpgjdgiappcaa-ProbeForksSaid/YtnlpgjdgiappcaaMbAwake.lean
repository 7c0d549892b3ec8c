/- WALK: watchfirelaw15.awake hands back true; ref15.May. -/
import Derived.Test.YtnlpgjdgiappcaaMbPos
namespace Go.Proofs.Ytnlpgjdgiappcaa
set_option linter.unusedVariables false
set_option linter.unusedSimpArgs false
open Go.RowKit

set_option maxHeartbeats 400000 in
theorem refMay_any (m : Pl.M) (w : World) (hm : Pl.MOk m) :
    Calls Try.prog 15 #[.agg (mcells m)] w fun e w' => e = .returned (.bool (Pl.mayM m)) ∧ Below w.heap.size w w' := by
  obtain ⟨n, s, i⟩ := m
  obtain ⟨n0, n1, s0, s1, i0, i1⟩ := hm
  simp only at n0 n1 s0 s1 i0 i1
  unfold mcells
  go_enter Try.func15, Try.ntmps15
  go_wp2
  all_goals
    go_ret
    refine ⟨ret_bool ?_, (Below.refl _ _).alloc (Nat.le_refl _) _⟩
    simp [Pl.mayM]
    try omega

theorem aw1 : Pl.hear 1 (Pl.newT 1) ⟨2, 1, 0⟩ = some ⟨2, 1, 0⟩ := by decide
theorem aw2 : Pl.hear 1 (Pl.heard 1 (Pl.newT 1) ⟨2, 1, 0⟩) ⟨2, 0, 0⟩ = none := by decide
theorem aw3 : Pl.hear 1 (Pl.heard 1 (Pl.heard 1 (Pl.newT 1) ⟨2, 1, 0⟩) ⟨2, 0, 0⟩) ⟨1, 1, 0⟩ = some ⟨1, 0, 1⟩ := by decide
def awF : Pl.Tab := Pl.heard 1 (Pl.heard 1 (Pl.heard 1 (Pl.newT 1) ⟨2, 1, 0⟩) ⟨2, 0, 0⟩) ⟨1, 1, 0⟩
theorem aw4 : Pl.posT 1 awF = 0 := by decide +kernel
theorem aw5 : (Pl.thereT awF).length = 2 := by decide +kernel

theorem mok_lit (n s i : Int) (h : 0 ≤ n ∧ n ≤ 65535 ∧ 0 ≤ s ∧ s ≤ 255 ∧ -9223372036854775808 ≤ i ∧ i ≤ 9223372036854775807) : Pl.MOk ⟨n, s, i⟩ := ⟨h.1, h.2.1, h.2.2.1, h.2.2.2.1, h.2.2.2.2.1, h.2.2.2.2.2⟩

set_option maxRecDepth 100000 in
set_option maxHeartbeats 1000000 in
theorem awake_any (w : World) : Calls Try.prog 16 #[] w fun e w' => e = .returned (.bool true) ∧ Below w.heap.size w w' := by
  go_enter Try.func16, Try.ntmps16
  go_wp2_with fail
  refine (new_any 1 _ (by omega) (by omega)).mono ?_
  rintro e w1 ⟨g, rfl, hb1, hg, hT1⟩
  have HB1 := Lib.hid hb1
  have hT1' : IsT w1 g 1 (Pl.newT 1) := hT1
  have HT1 := Lib.hid hT1'
  clear hb1 hT1 hT1'
  go_wp2_with fail
  refine (hear_any g 1 _ ⟨2, 1, 0⟩ _ HT1.out (mok_lit _ _ _ (by omega))).mono ?_
  rintro e w2 ⟨rfl, hg2, hT2⟩
  have HG2 := Lib.hid hg2
  have HT2 := Lib.hid hT2
  clear hg2 hT2
  simp only [aw1, heardVal, mcells]
  go_wp2_with fail
  refine (hear_any g 1 _ ⟨2, 0, 0⟩ _ (HT2.out.alloc _) (mok_lit _ _ _ (by omega))).mono ?_
  rintro e w3 ⟨rfl, hg3, hT3⟩
  have HG3 := Lib.hid hg3
  have HT3 := Lib.hid hT3
  clear hg3 hT3
  simp only [aw2, heardVal, mcells, mzero]
  go_wp2_with fail
  refine (hear_any g 1 _ ⟨1, 1, 0⟩ _ (HT3.out.alloc _) (mok_lit _ _ _ (by omega))).mono ?_
  rintro e w4 ⟨rfl, hg4, hT4⟩
  have HG4 := Lib.hid hg4
  have HT4 := Lib.hid hT4
  clear hg4 hT4
  simp only [aw3, heardVal, mcells]
  go_wp2_with fail
  refine (position_any g 1 _ _ (HT4.out.alloc _)).mono ?_
  rintro e w5 ⟨rfl, hb5⟩
  have a4 : Pl.posT 1 (Pl.heard 1 (Pl.heard 1 (Pl.heard 1 (Pl.newT 1) ⟨2, 1, 0⟩) ⟨2, 0, 0⟩) ⟨1, 1, 0⟩) = 0 := aw4
  simp only [a4]
  clear a4
  have HB5 := Lib.hid hb5
  clear hb5
  go_wp2_with fail
  refine (there_any g 1 _ _ ((HT4.out.alloc _).below HB5.out (HT4.out.alloc _).lt)).mono ?_
  rintro e w6 ⟨v, rfl, ho, hb6⟩
  obtain ⟨A, c, rfl, _⟩ := Reads.of_own ho
  have a5 : (Pl.thereT (Pl.heard 1 (Pl.heard 1 (Pl.heard 1 (Pl.newT 1) ⟨2, 1, 0⟩) ⟨2, 0, 0⟩) ⟨1, 1, 0⟩)).length = 2 := aw5
  simp only [a5]
  have HB6 := Lib.hid hb6
  clear a5 ho hb6
  go_wp2
  go_ret
  have hr : ∀ k, some g = some k → w.heap.size ≤ k := fun k e => by injection e with e; omega
  have b1 := HB1.out
  have b2 := b1.grown HG2.out b1.size hr
  have b3 := (b2.alloc b2.size (.cells #[.int .u16 2, .int .u8 1, .int .i64 0] 25)).grown HG3.out (by have := b2.size; simp; omega) hr
  have b4 := (b3.alloc b3.size (.cells #[.int .u16 0, .int .u8 0, .int .i64 0] 25)).grown HG4.out (by have := b3.size; simp; omega) hr
  have b5 := below_then (b4.alloc b4.size (.cells #[.int .u16 1, .int .u8 0, .int .i64 1] 25)) (by have := b4.size; simp; omega) HB5.out
  have b6 := below_then b5 b5.size HB6.out
  exact ⟨rfl, b6⟩

end Go.Proofs.Ytnlpgjdgiappcaa
