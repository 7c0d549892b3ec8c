/- WALKS: civil's and the document's Of, Seconds. -/
import Derived.Test.YtkmkeimofhpkeaaDoorWalk3
import Derived.Deep.DeepCutAuto
namespace Go.Proofs.YtkmkeimofhpkeaaDoor
set_option linter.unusedVariables false
set_option linter.unusedSimpArgs false
open Go.RowKit

def tagg (y m d k mi s : Int) : Value := .agg #[.int .i64 y, .int .i64 m, .int .i64 d, .int .i64 k, .int .i64 mi, .int .i64 s]
def tarr (y m d k mi s : Int) : Array Value := #[.int .i64 y, .int .i64 m, .int .i64 d, .int .i64 k, .int .i64 mi, .int .i64 s]
def ofVal (s a : Int) : Value :=
  if a < -1440 ∨ 1440 < a then .tuple #[tagg 0 0 0 0 0 0, .int .i64 2]
  else if s < -1125899906842624 ∨ 1125899906842624 < s then .tuple #[tagg 0 0 0 0 0 0, .int .i64 13]
  else if inR ((s + 60 * a) / 86400) then
    .tuple #[tagg (Cv.dateY ((s + 60 * a) / 86400)) (Cv.dateM ((s + 60 * a) / 86400)) (Cv.dD ((s + 60 * a) / 86400)) (((s + 60 * a) / 86400 + 4) % 7) ((s + 60 * a) % 86400 / 60) ((s + 60 * a) % 86400 % 60), .int .i64 0]
  else .tuple #[tagg 0 0 0 0 0 0, .int .i64 13]
def secOk (y m d mi s : Int) : Prop := Cv.val y m d ∧ 0 ≤ mi ∧ mi ≤ 1439 ∧ 0 ≤ s ∧ s ≤ 59
instance (y m d mi s : Int) : Decidable (secOk y m d mi s) := inferInstanceAs (Decidable (_ ∧ _ ∧ _ ∧ _ ∧ _))
def secVal (y m d mi s a : Int) : Value :=
  if a < -1440 ∨ 1440 < a then .tuple #[.int .i64 0, .int .i64 2]
  else if secOk y m d mi s then .tuple #[.int .i64 (86400 * Cv.num y m d + 60 * mi + s - 60 * a), .int .i64 0]
  else .tuple #[.int .i64 0, .int .i64 13]

theorem Blk.six {w : World} {g : Nat} {t : TypeId} {a b c d e f : Value} (h : Blk w g t #[a, b, c, d, e, f]) (x y z u v q : Value) :
    Blk ((((((w.setCell ⟨g, 0, none⟩ x).setCell ⟨g, 1, none⟩ y).setCell ⟨g, 2, none⟩ z).setCell ⟨g, 3, none⟩ u).setCell ⟨g, 4, none⟩ v).setCell ⟨g, 5, none⟩ q) g t #[x, y, z, u, v, q] :=
  (((((h.set_ 0 x).set_ 1 y).set_ 2 z).set_ 3 u).set_ 4 v).set_ 5 q
theorem below_six {w w1 : World} {B g : Nat} (h : Below B w w1) (hg : B ≤ g) (x y z u v q : Value) :
    Below B w ((((((w1.setCell ⟨g, 0, none⟩ x).setCell ⟨g, 1, none⟩ y).setCell ⟨g, 2, none⟩ z).setCell ⟨g, 3, none⟩ u).setCell ⟨g, 4, none⟩ v).setCell ⟨g, 5, none⟩ q) :=
  (((((h.setCell (p := ⟨g, 0, none⟩) hg x).setCell (p := ⟨g, 1, none⟩) hg y).setCell (p := ⟨g, 2, none⟩) hg z).setCell (p := ⟨g, 3, none⟩) hg u).setCell (p := ⟨g, 4, none⟩) hg v).setCell (p := ⟨g, 5, none⟩) hg q

set_option maxRecDepth 100000 in
set_option maxHeartbeats 2000000 in
theorem of_any (s a : Int) (w : World) (hA : AH w) : Calls Tryd.prog 19 #[.int .i64 s, .int .i64 a] w fun e w' => e = .returned (ofVal s a) ∧ Below w.heap.size w w' := by
  have hB := Blk.new w 34 #[.int .i64 0, .int .i64 0, .int .i64 0, .int .i64 0, .int .i64 0, .int .i64 0]
  have hK : Below w.heap.size w (w.alloc (.cells #[.int .i64 0, .int .i64 0, .int .i64 0, .int .i64 0, .int .i64 0, .int .i64 0] 34)) := (Below.refl _ _).alloc (Nat.le_refl _) _
  have hA1 := hA.below hK
  have hl : w.heap.size < (w.alloc (.cells #[.int .i64 0, .int .i64 0, .int .i64 0, .int .i64 0, .int .i64 0, .int .i64 0] 34)).heap.size := by simp
  go_enter Tryd.func19, Tryd.ntmps19
  go_upto_region 1 with fail
  generalize w.alloc (.cells #[.int .i64 0, .int .i64 0, .int .i64 0, .int .i64 0, .int .i64 0, .int .i64 0] 34) = W at *
  have B := Lib.hid hB
  have K := Lib.hid hK
  have AA := Lib.hid hA1
  clear hA hA1
  clear hB hK
  go_wp2_with fail
  refine (clock_any a _).mono ?_
  rintro e w1 ⟨rfl, hb⟩
  have B1 := Lib.hid (B.out.below hb hl)
  have K1 := Lib.hid (below_then K.out K.out.size hb)
  have l1 : w.heap.size < w1.heap.size := Nat.lt_of_lt_of_le hl hb.size
  have A1 := Lib.hid (AA.out.below hb)
  clear hb B K AA
  have q0 := B1.out.cell 0
  have q1 := B1.out.cell 1
  have q2 := B1.out.cell 2
  have q3 := B1.out.cell 3
  have q4 := B1.out.cell 4
  have q5 := B1.out.cell 5
  have qf := B1.out.frozen
  simp only [List.getElem?_toArray, List.getElem?_cons_zero, List.getElem?_cons_succ] at q0 q1 q2 q3 q4 q5
  by_cases h1 : a < -1440 ∨ 1440 < a
  · rw [show (decide (-1440 ≤ a) && decide (a ≤ 1440)) = false by simp; omega]
    go_wp2
    have fb := Blk.six B1.out (.int .i64 0) (.int .i64 0) (.int .i64 0) (.int .i64 0) (.int .i64 0) (.int .i64 0)
    have fk := below_six K1.out (Nat.le_refl _) (.int .i64 0) (.int .i64 0) (.int .i64 0) (.int .i64 0) (.int .i64 0) (.int .i64 0)
    have s0 := fb.cell 0
    have s1 := fb.cell 1
    have s2 := fb.cell 2
    have s3 := fb.cell 3
    have s4 := fb.cell 4
    have s5 := fb.cell 5
    simp only [List.getElem?_toArray, List.getElem?_cons_zero, List.getElem?_cons_succ] at s0 s1 s2 s3 s4 s5
    refine bodyPost_ret (v := ofVal s a) (by rw [ofVal, if_pos h1]; simp [results, Tryd.results19, go_sem, tagg, s0, s1, s2, s3, s4, s5]) rfl ⟨rfl, fk⟩
  rw [show (decide (-1440 ≤ a) && decide (a ≤ 1440)) = true by simp; omega]
  have a1 : ¬ a < -1440 := by omega
  have a2 : ¬ 1440 < a := by omega
  by_cases h2 : s < -1125899906842624 ∨ 1125899906842624 < s
  · rcases h2 with h2' | h2'
    · have h2 : s < -1125899906842624 ∨ 1125899906842624 < s := .inl h2'
      go_wp2
      have fb := Blk.six B1.out (.int .i64 0) (.int .i64 0) (.int .i64 0) (.int .i64 0) (.int .i64 0) (.int .i64 0)
      have fk := below_six K1.out (Nat.le_refl _) (.int .i64 0) (.int .i64 0) (.int .i64 0) (.int .i64 0) (.int .i64 0) (.int .i64 0)
      have s0 := fb.cell 0
      have s1 := fb.cell 1
      have s2 := fb.cell 2
      have s3 := fb.cell 3
      have s4 := fb.cell 4
      have s5 := fb.cell 5
      simp only [List.getElem?_toArray, List.getElem?_cons_zero, List.getElem?_cons_succ] at s0 s1 s2 s3 s4 s5
      refine bodyPost_ret (v := ofVal s a) (by rw [ofVal, if_neg h1, if_pos h2]; simp [results, Tryd.results19, go_sem, tagg, s0, s1, s2, s3, s4, s5]) rfl ⟨rfl, fk⟩
    · have h2 : s < -1125899906842624 ∨ 1125899906842624 < s := .inr h2'
      have h2n : ¬ s < -1125899906842624 := by omega
      go_wp2
      have fb := Blk.six B1.out (.int .i64 0) (.int .i64 0) (.int .i64 0) (.int .i64 0) (.int .i64 0) (.int .i64 0)
      have fk := below_six K1.out (Nat.le_refl _) (.int .i64 0) (.int .i64 0) (.int .i64 0) (.int .i64 0) (.int .i64 0) (.int .i64 0)
      have s0 := fb.cell 0
      have s1 := fb.cell 1
      have s2 := fb.cell 2
      have s3 := fb.cell 3
      have s4 := fb.cell 4
      have s5 := fb.cell 5
      simp only [List.getElem?_toArray, List.getElem?_cons_zero, List.getElem?_cons_succ] at s0 s1 s2 s3 s4 s5
      refine bodyPost_ret (v := ofVal s a) (by rw [ofVal, if_neg h1, if_pos h2]; simp [results, Tryd.results19, go_sem, tagg, s0, s1, s2, s3, s4, s5]) rfl ⟨rfl, fk⟩
  have s1' : ¬ s < -1125899906842624 := by omega
  have s2' : ¬ 1125899906842624 < s := by omega
  go_wp2_with fail
  refine (floor_any86400 (s + 60 * a) _ (by omega) (by omega)).mono ?_
  simp only [floorVal]
  rintro e w2 ⟨rfl, hb⟩
  have B2 := Lib.hid (B1.out.below hb l1)
  have K2 := Lib.hid (below_then K1.out K1.out.size hb)
  have l2 : w.heap.size < w2.heap.size := Nat.lt_of_lt_of_le l1 hb.size
  have A2 := Lib.hid (A1.out.below hb)
  clear hb B1 K1 q0 q1 q2 q3 q4 q5 qf
  have hof : ofVal s a = if inR ((s + 60 * a) / 86400) then
    .tuple #[tagg (Cv.dateY ((s + 60 * a) / 86400)) (Cv.dateM ((s + 60 * a) / 86400)) (Cv.dD ((s + 60 * a) / 86400)) (((s + 60 * a) / 86400 + 4) % 7) ((s + 60 * a) % 86400 / 60) ((s + 60 * a) % 86400 % 60), .int .i64 0]
    else .tuple #[tagg 0 0 0 0 0 0, .int .i64 13] := by rw [ofVal, if_neg h1, if_neg h2]
  have hr0 : 0 ≤ (s + 60 * a) % 86400 ∧ (s + 60 * a) % 86400 < 86400 := by omega
  have hn0 : -4611686018427387904 ≤ (s + 60 * a) / 86400 + 4 ∧ (s + 60 * a) / 86400 + 4 ≤ 4611686018427387904 := by omega
  generalize (s + 60 * a) / 86400 = n at *
  generalize (s + 60 * a) % 86400 = r at *
  have OV := Lib.hid hof
  clear hof
  have r0 := hr0.1
  have r1 := hr0.2
  have n0 := hn0.1
  have n1 := hn0.2
  go_wp2_with fail
  refine (date_any n _ A2.out).mono ?_
  by_cases hin : inR n
  · rw [dateVal, if_pos hin]
    have hvr := Cv.val_range (Cv.date_law n hin.1 hin.2).1
    have hy0 := hvr.1
    have hOV : ofVal s a = .tuple #[tagg (Cv.dateY n) (Cv.dateM n) (Cv.dD n) ((n + 4) % 7) (r / 60) (r % 60), .int .i64 0] := by rw [OV.out, if_pos hin]
    have OV2 := Lib.hid hOV
    clear hOV OV hvr
    generalize Cv.dateY n = Y at *
    generalize Cv.dateM n = M at *
    generalize Cv.dD n = D at *
    rintro e w3 ⟨rfl, hb⟩
    have B3 := Lib.hid (B2.out.below hb l2)
    have K3 := Lib.hid (below_then K2.out K2.out.size hb)
    have l3 : w.heap.size < w3.heap.size := Nat.lt_of_lt_of_le l2 hb.size
    clear hb B2 K2
    go_wp2_with fail
    refine (floor_any7 (n + 4) _ n0 n1).mono ?_
    simp only [floorVal]
    rintro e w4 ⟨rfl, hb⟩
    have B4 := Lib.hid (B3.out.below hb l3)
    have K4 := Lib.hid (below_then K3.out K3.out.size hb)
    clear hb B3 K3
    have q0 := B4.out.cell 0
    have q1 := B4.out.cell 1
    have q2 := B4.out.cell 2
    have q3 := B4.out.cell 3
    have q4 := B4.out.cell 4
    have q5 := B4.out.cell 5
    have qf := B4.out.frozen
    simp only [List.getElem?_toArray, List.getElem?_cons_zero, List.getElem?_cons_succ] at q0 q1 q2 q3 q4 q5
    go_wp2
    have fb := Blk.six B4.out (.int .i64 Y) (.int .i64 M) (.int .i64 D) (.int .i64 ((n + 4) % 7)) (.int .i64 (r / 60)) (.int .i64 (r % 60))
    have fk := below_six K4.out (Nat.le_refl _) (.int .i64 Y) (.int .i64 M) (.int .i64 D) (.int .i64 ((n + 4) % 7)) (.int .i64 (r / 60)) (.int .i64 (r % 60))
    have s0 := fb.cell 0
    have s1 := fb.cell 1
    have s2 := fb.cell 2
    have s3 := fb.cell 3
    have s4 := fb.cell 4
    have s5 := fb.cell 5
    simp only [List.getElem?_toArray, List.getElem?_cons_zero, List.getElem?_cons_succ] at s0 s1 s2 s3 s4 s5
    refine bodyPost_ret (v := ofVal s a) (by rw [OV2.out]; simp [results, Tryd.results19, go_sem, tagg, s0, s1, s2, s3, s4, s5]) rfl ⟨rfl, fk⟩
  · rw [dateVal, if_neg hin]
    have hOV : ofVal s a = .tuple #[tagg 0 0 0 0 0 0, .int .i64 13] := by rw [OV.out, if_neg hin]
    have OV2 := Lib.hid hOV
    clear hOV OV
    rintro e w3 ⟨rfl, hb⟩
    have B3 := Lib.hid (B2.out.below hb l2)
    have K3 := Lib.hid (below_then K2.out K2.out.size hb)
    clear hb B2 K2
    have q0 := B3.out.cell 0
    have q1 := B3.out.cell 1
    have q2 := B3.out.cell 2
    have q3 := B3.out.cell 3
    have q4 := B3.out.cell 4
    have q5 := B3.out.cell 5
    have qf := B3.out.frozen
    simp only [List.getElem?_toArray, List.getElem?_cons_zero, List.getElem?_cons_succ] at q0 q1 q2 q3 q4 q5
    go_wp2
    have fb := Blk.six B3.out (.int .i64 0) (.int .i64 0) (.int .i64 0) (.int .i64 0) (.int .i64 0) (.int .i64 0)
    have fk := below_six K3.out (Nat.le_refl _) (.int .i64 0) (.int .i64 0) (.int .i64 0) (.int .i64 0) (.int .i64 0) (.int .i64 0)
    have s0 := fb.cell 0
    have s1 := fb.cell 1
    have s2 := fb.cell 2
    have s3 := fb.cell 3
    have s4 := fb.cell 4
    have s5 := fb.cell 5
    simp only [List.getElem?_toArray, List.getElem?_cons_zero, List.getElem?_cons_succ] at s0 s1 s2 s3 s4 s5
    refine bodyPost_ret (v := ofVal s a) (by rw [OV2.out]; simp [results, Tryd.results19, go_sem, tagg, s0, s1, s2, s3, s4, s5]) rfl ⟨rfl, fk⟩

set_option maxRecDepth 100000 in
set_option maxHeartbeats 2000000 in
theorem rof_any (s a : Int) (w : World) : Calls Tryd.prog 20 #[.int .i64 s, .int .i64 a] w fun e w' => e = .returned (ofVal s a) ∧ Below w.heap.size w w' := by
  have hB := Blk.new w 37 #[.int .i64 0, .int .i64 0, .int .i64 0, .int .i64 0, .int .i64 0, .int .i64 0]
  have hK : Below w.heap.size w (w.alloc (.cells #[.int .i64 0, .int .i64 0, .int .i64 0, .int .i64 0, .int .i64 0, .int .i64 0] 37)) := (Below.refl _ _).alloc (Nat.le_refl _) _
  have hl : w.heap.size < (w.alloc (.cells #[.int .i64 0, .int .i64 0, .int .i64 0, .int .i64 0, .int .i64 0, .int .i64 0] 37)).heap.size := by simp
  go_enter Tryd.func20, Tryd.ntmps20
  go_upto_region 1 with fail
  generalize w.alloc (.cells #[.int .i64 0, .int .i64 0, .int .i64 0, .int .i64 0, .int .i64 0, .int .i64 0] 37) = W at *
  have B := Lib.hid hB
  have K := Lib.hid hK
  clear hB hK
  have B1 := B
  have K1 := K
  have l1 := hl
  clear B K
  have q0 := B1.out.cell 0
  have q1 := B1.out.cell 1
  have q2 := B1.out.cell 2
  have q3 := B1.out.cell 3
  have q4 := B1.out.cell 4
  have q5 := B1.out.cell 5
  have qf := B1.out.frozen
  simp only [List.getElem?_toArray, List.getElem?_cons_zero, List.getElem?_cons_succ] at q0 q1 q2 q3 q4 q5
  by_cases h1 : a < -1440 ∨ 1440 < a
  · rcases h1 with h1' | h1'
    · have h1 : a < -1440 ∨ 1440 < a := .inl h1'
      go_wp2
      have fb := Blk.six B1.out (.int .i64 0) (.int .i64 0) (.int .i64 0) (.int .i64 0) (.int .i64 0) (.int .i64 0)
      have fk := below_six K1.out (Nat.le_refl _) (.int .i64 0) (.int .i64 0) (.int .i64 0) (.int .i64 0) (.int .i64 0) (.int .i64 0)
      have s0 := fb.cell 0
      have s1 := fb.cell 1
      have s2 := fb.cell 2
      have s3 := fb.cell 3
      have s4 := fb.cell 4
      have s5 := fb.cell 5
      simp only [List.getElem?_toArray, List.getElem?_cons_zero, List.getElem?_cons_succ] at s0 s1 s2 s3 s4 s5
      refine bodyPost_ret (v := ofVal s a) (by rw [ofVal, if_pos h1]; simp [results, Tryd.results20, go_sem, tagg, s0, s1, s2, s3, s4, s5]) rfl ⟨rfl, fk⟩
    · have h1 : a < -1440 ∨ 1440 < a := .inr h1'
      have h1n : ¬ a < -1440 := by omega
      go_wp2
      have fb := Blk.six B1.out (.int .i64 0) (.int .i64 0) (.int .i64 0) (.int .i64 0) (.int .i64 0) (.int .i64 0)
      have fk := below_six K1.out (Nat.le_refl _) (.int .i64 0) (.int .i64 0) (.int .i64 0) (.int .i64 0) (.int .i64 0) (.int .i64 0)
      have s0 := fb.cell 0
      have s1 := fb.cell 1
      have s2 := fb.cell 2
      have s3 := fb.cell 3
      have s4 := fb.cell 4
      have s5 := fb.cell 5
      simp only [List.getElem?_toArray, List.getElem?_cons_zero, List.getElem?_cons_succ] at s0 s1 s2 s3 s4 s5
      refine bodyPost_ret (v := ofVal s a) (by rw [ofVal, if_pos h1]; simp [results, Tryd.results20, go_sem, tagg, s0, s1, s2, s3, s4, s5]) rfl ⟨rfl, fk⟩
  have a1 : ¬ a < -1440 := by omega
  have a2 : ¬ 1440 < a := by omega
  by_cases h2 : s < -1125899906842624 ∨ 1125899906842624 < s
  · rcases h2 with h2' | h2'
    · have h2 : s < -1125899906842624 ∨ 1125899906842624 < s := .inl h2'
      go_wp2
      have fb := Blk.six B1.out (.int .i64 0) (.int .i64 0) (.int .i64 0) (.int .i64 0) (.int .i64 0) (.int .i64 0)
      have fk := below_six K1.out (Nat.le_refl _) (.int .i64 0) (.int .i64 0) (.int .i64 0) (.int .i64 0) (.int .i64 0) (.int .i64 0)
      have s0 := fb.cell 0
      have s1 := fb.cell 1
      have s2 := fb.cell 2
      have s3 := fb.cell 3
      have s4 := fb.cell 4
      have s5 := fb.cell 5
      simp only [List.getElem?_toArray, List.getElem?_cons_zero, List.getElem?_cons_succ] at s0 s1 s2 s3 s4 s5
      refine bodyPost_ret (v := ofVal s a) (by rw [ofVal, if_neg h1, if_pos h2]; simp [results, Tryd.results20, go_sem, tagg, s0, s1, s2, s3, s4, s5]) rfl ⟨rfl, fk⟩
    · have h2 : s < -1125899906842624 ∨ 1125899906842624 < s := .inr h2'
      have h2n : ¬ s < -1125899906842624 := by omega
      go_wp2
      have fb := Blk.six B1.out (.int .i64 0) (.int .i64 0) (.int .i64 0) (.int .i64 0) (.int .i64 0) (.int .i64 0)
      have fk := below_six K1.out (Nat.le_refl _) (.int .i64 0) (.int .i64 0) (.int .i64 0) (.int .i64 0) (.int .i64 0) (.int .i64 0)
      have s0 := fb.cell 0
      have s1 := fb.cell 1
      have s2 := fb.cell 2
      have s3 := fb.cell 3
      have s4 := fb.cell 4
      have s5 := fb.cell 5
      simp only [List.getElem?_toArray, List.getElem?_cons_zero, List.getElem?_cons_succ] at s0 s1 s2 s3 s4 s5
      refine bodyPost_ret (v := ofVal s a) (by rw [ofVal, if_neg h1, if_pos h2]; simp [results, Tryd.results20, go_sem, tagg, s0, s1, s2, s3, s4, s5]) rfl ⟨rfl, fk⟩
  have s1' : ¬ s < -1125899906842624 := by omega
  have s2' : ¬ 1125899906842624 < s := by omega
  go_wp2_with fail
  refine (rfloor_any86400 (s + 60 * a) _ (by omega) (by omega)).mono ?_
  simp only [floorVal]
  rintro e w2 ⟨rfl, hb⟩
  have B2 := Lib.hid (B1.out.below hb l1)
  have K2 := Lib.hid (below_then K1.out K1.out.size hb)
  have l2 : w.heap.size < w2.heap.size := Nat.lt_of_lt_of_le l1 hb.size
  clear hb B1 K1 q0 q1 q2 q3 q4 q5 qf
  have hof : ofVal s a = if inR ((s + 60 * a) / 86400) then
    .tuple #[tagg (Cv.dateY ((s + 60 * a) / 86400)) (Cv.dateM ((s + 60 * a) / 86400)) (Cv.dD ((s + 60 * a) / 86400)) (((s + 60 * a) / 86400 + 4) % 7) ((s + 60 * a) % 86400 / 60) ((s + 60 * a) % 86400 % 60), .int .i64 0]
    else .tuple #[tagg 0 0 0 0 0 0, .int .i64 13] := by rw [ofVal, if_neg h1, if_neg h2]
  have hr0 : 0 ≤ (s + 60 * a) % 86400 ∧ (s + 60 * a) % 86400 < 86400 := by omega
  have hn0 : -4611686018427387904 ≤ (s + 60 * a) / 86400 + 4 ∧ (s + 60 * a) / 86400 + 4 ≤ 4611686018427387904 := by omega
  generalize (s + 60 * a) / 86400 = n at *
  generalize (s + 60 * a) % 86400 = r at *
  have OV := Lib.hid hof
  clear hof
  have r0 := hr0.1
  have r1 := hr0.2
  have n0 := hn0.1
  have n1 := hn0.2
  go_wp2_with fail
  refine (rdate_any n _).mono ?_
  by_cases hin : inR n
  · rw [dateVal, if_pos hin]
    have hvr := Cv.val_range (Cv.date_law n hin.1 hin.2).1
    have hy0 := hvr.1
    have hOV : ofVal s a = .tuple #[tagg (Cv.dateY n) (Cv.dateM n) (Cv.dD n) ((n + 4) % 7) (r / 60) (r % 60), .int .i64 0] := by rw [OV.out, if_pos hin]
    have OV2 := Lib.hid hOV
    clear hOV OV hvr
    generalize Cv.dateY n = Y at *
    generalize Cv.dateM n = M at *
    generalize Cv.dD n = D at *
    rintro e w3 ⟨rfl, hb⟩
    have B3 := Lib.hid (B2.out.below hb l2)
    have K3 := Lib.hid (below_then K2.out K2.out.size hb)
    have l3 : w.heap.size < w3.heap.size := Nat.lt_of_lt_of_le l2 hb.size
    clear hb B2 K2
    go_wp2_with fail
    refine (rfloor_any7 (n + 4) _ n0 n1).mono ?_
    simp only [floorVal]
    rintro e w4 ⟨rfl, hb⟩
    have B4 := Lib.hid (B3.out.below hb l3)
    have K4 := Lib.hid (below_then K3.out K3.out.size hb)
    clear hb B3 K3
    have q0 := B4.out.cell 0
    have q1 := B4.out.cell 1
    have q2 := B4.out.cell 2
    have q3 := B4.out.cell 3
    have q4 := B4.out.cell 4
    have q5 := B4.out.cell 5
    have qf := B4.out.frozen
    simp only [List.getElem?_toArray, List.getElem?_cons_zero, List.getElem?_cons_succ] at q0 q1 q2 q3 q4 q5
    go_wp2
    have fb := Blk.six B4.out (.int .i64 Y) (.int .i64 M) (.int .i64 D) (.int .i64 ((n + 4) % 7)) (.int .i64 (r / 60)) (.int .i64 (r % 60))
    have fk := below_six K4.out (Nat.le_refl _) (.int .i64 Y) (.int .i64 M) (.int .i64 D) (.int .i64 ((n + 4) % 7)) (.int .i64 (r / 60)) (.int .i64 (r % 60))
    have s0 := fb.cell 0
    have s1 := fb.cell 1
    have s2 := fb.cell 2
    have s3 := fb.cell 3
    have s4 := fb.cell 4
    have s5 := fb.cell 5
    simp only [List.getElem?_toArray, List.getElem?_cons_zero, List.getElem?_cons_succ] at s0 s1 s2 s3 s4 s5
    refine bodyPost_ret (v := ofVal s a) (by rw [OV2.out]; simp [results, Tryd.results20, go_sem, tagg, s0, s1, s2, s3, s4, s5]) rfl ⟨rfl, fk⟩
  · rw [dateVal, if_neg hin]
    have hOV : ofVal s a = .tuple #[tagg 0 0 0 0 0 0, .int .i64 13] := by rw [OV.out, if_neg hin]
    have OV2 := Lib.hid hOV
    clear hOV OV
    rintro e w3 ⟨rfl, hb⟩
    have B3 := Lib.hid (B2.out.below hb l2)
    have K3 := Lib.hid (below_then K2.out K2.out.size hb)
    clear hb B2 K2
    have q0 := B3.out.cell 0
    have q1 := B3.out.cell 1
    have q2 := B3.out.cell 2
    have q3 := B3.out.cell 3
    have q4 := B3.out.cell 4
    have q5 := B3.out.cell 5
    have qf := B3.out.frozen
    simp only [List.getElem?_toArray, List.getElem?_cons_zero, List.getElem?_cons_succ] at q0 q1 q2 q3 q4 q5
    go_wp2
    have fb := Blk.six B3.out (.int .i64 0) (.int .i64 0) (.int .i64 0) (.int .i64 0) (.int .i64 0) (.int .i64 0)
    have fk := below_six K3.out (Nat.le_refl _) (.int .i64 0) (.int .i64 0) (.int .i64 0) (.int .i64 0) (.int .i64 0) (.int .i64 0)
    have s0 := fb.cell 0
    have s1 := fb.cell 1
    have s2 := fb.cell 2
    have s3 := fb.cell 3
    have s4 := fb.cell 4
    have s5 := fb.cell 5
    simp only [List.getElem?_toArray, List.getElem?_cons_zero, List.getElem?_cons_succ] at s0 s1 s2 s3 s4 s5
    refine bodyPost_ret (v := ofVal s a) (by rw [OV2.out]; simp [results, Tryd.results20, go_sem, tagg, s0, s1, s2, s3, s4, s5]) rfl ⟨rfl, fk⟩

end Go.Proofs.YtkmkeimofhpkeaaDoor
