/- WALK: watchfirelaw25.awake. -/
import Derived.Test.YtkmkeimofhpkeaaDoorText
namespace Go.Proofs.YtkmkeimofhpkeaaDoor
set_option linter.unusedVariables false
set_option linter.unusedSimpArgs false
open Go.RowKit

theorem aw_day : dayVal 2000 3 1 = .tuple #[.int .i64 11017, .int .i64 0] := by
  unfold dayVal; rw [if_pos (by decide), if_pos (by decide)]; rfl
theorem aw_of : ofVal 0 60 = .tuple #[.agg #[.int .i64 1970, .int .i64 1, .int .i64 1, .int .i64 4, .int .i64 60, .int .i64 0], .int .i64 0] := by
  unfold ofVal; rw [if_neg (by decide), if_neg (by decide), if_pos (by decide)]; rfl
theorem aw_text : textVal 1970 1 1 60 0 = .string ⟨#[49, 57, 55, 48, 45, 48, 49, 45, 48, 49, 84, 48, 49, 58, 48, 48, 58, 48, 48]⟩ := by
  unfold textVal; rw [if_pos (by decide)]; rfl

set_option maxRecDepth 100000 in
set_option maxHeartbeats 2000000 in
theorem awake_any (w : World) (hA : AH w) : Calls Tryd.prog 16 #[] w fun e w' => e = .returned (.bool true) ∧ Below w.heap.size w w' := by
  go_enter Tryd.func16, Tryd.ntmps16
  go_wp2_with fail
  refine (days_any 2000 3 1 _ hA).mono ?_
  rw [aw_day]
  rintro e w1 ⟨rfl, hb⟩
  have A1 := Lib.hid (hA.below hb)
  have K1 := Lib.hid hb
  clear hb hA
  go_wp2_with fail
  refine (of_any 0 60 _ A1.out).mono ?_
  rw [aw_of]
  rintro e w2 ⟨rfl, hb⟩
  have A2 := Lib.hid (A1.out.below hb)
  have K2 := Lib.hid (below_then K1.out K1.out.size hb)
  clear hb A1 K1
  have hs : w2.heap.size < (w2.alloc (.cells #[.int .i64 1970, .int .i64 1, .int .i64 1, .int .i64 4, .int .i64 60, .int .i64 0] 34)).heap.size := by simp
  have hB := Blk.new w2 34 #[.int .i64 1970, .int .i64 1, .int .i64 1, .int .i64 4, .int .i64 60, .int .i64 0]
  have hA3 := A2.out.below ((Below.refl _ w2).alloc (Nat.le_refl _) (.cells #[.int .i64 1970, .int .i64 1, .int .i64 1, .int .i64 4, .int .i64 60, .int .i64 0] 34))
  have hK3 := K2.out.alloc K2.out.size (.cells #[.int .i64 1970, .int .i64 1, .int .i64 1, .int .i64 4, .int .i64 60, .int .i64 0] 34)
  have B3 := Lib.hid hB
  have A3 := Lib.hid hA3
  have K3 := Lib.hid hK3
  clear hB hA3 hK3
  go_wp2_with fail
  refine (long_any 1900 2 _ A3.out).mono ?_
  rw [show Cv.longB 1900 2 = 28 by decide]
  rintro e w4 ⟨rfl, hb⟩
  have B4 := Lib.hid (B3.out.below hb hs)
  have A4 := Lib.hid (A3.out.below hb)
  have K4 := Lib.hid (below_then K3.out K3.out.size hb)
  clear hb B3 A3 K3
  have q0 := B4.out.cell 0
  have q1 := B4.out.cell 1
  have q2 := B4.out.cell 2
  have q3 := B4.out.cell 3
  have q4 := B4.out.cell 4
  have q5 := B4.out.cell 5
  simp only [List.getElem?_toArray, List.getElem?_cons_zero, List.getElem?_cons_succ] at q0 q1 q2 q3 q4 q5
  go_wp2_with fail
  refine (text_any 1970 1 1 4 60 0 _ A4.out).mono ?_
  rw [aw_text]
  rintro e w5 ⟨rfl, hb⟩
  have K5 := Lib.hid (below_then K4.out K4.out.size hb)
  clear hb q0 q1 q2 q3 q4 q5
  go_wp2
  go_ret
  exact ⟨rfl, K5.out⟩

end Go.Proofs.YtkmkeimofhpkeaaDoor
