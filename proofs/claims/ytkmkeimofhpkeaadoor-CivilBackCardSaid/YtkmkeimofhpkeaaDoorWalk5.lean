/- WALKS: civil's and the document's Seconds. -/
import Derived.Test.YtkmkeimofhpkeaaDoorWalk4
namespace Go.Proofs.YtkmkeimofhpkeaaDoor
set_option linter.unusedVariables false
set_option linter.unusedSimpArgs false
open Go.RowKit

set_option maxRecDepth 100000 in
set_option maxHeartbeats 2000000 in
theorem secs_any (y m d k mi s a : Int) (w : World) (hA : AH w) : Calls Tryd.prog 21 #[tagg y m d k mi s, .int .i64 a] w fun e w' => e = .returned (secVal y m d mi s a) ∧ Below w.heap.size w w' := by
  unfold tagg
  have hB := Blk.new w 34 #[.int .i64 y, .int .i64 m, .int .i64 d, .int .i64 k, .int .i64 mi, .int .i64 s]
  have hK : Below w.heap.size w (w.alloc (.cells #[.int .i64 y, .int .i64 m, .int .i64 d, .int .i64 k, .int .i64 mi, .int .i64 s] 34)) := (Below.refl _ _).alloc (Nat.le_refl _) _
  have hA1 := hA.below hK
  have hl : w.heap.size < (w.alloc (.cells #[.int .i64 y, .int .i64 m, .int .i64 d, .int .i64 k, .int .i64 mi, .int .i64 s] 34)).heap.size := by simp
  go_enter Tryd.func21, Tryd.ntmps21
  go_upto_region 1 with fail
  generalize w.alloc (.cells #[.int .i64 y, .int .i64 m, .int .i64 d, .int .i64 k, .int .i64 mi, .int .i64 s] 34) = W at *
  have B := Lib.hid hB
  have K := Lib.hid hK
  have AA := Lib.hid hA1
  clear hA hA1
  clear hB hK
  go_wp2_with fail
  refine (clock_any a _).mono ?_
  rintro e w1 ⟨rfl, hb⟩
  have B1 := Lib.hid (B.out.below hb hl)
  have K1 := Lib.hid (below_then K.out K.out.size hb)
  have l1 : w.heap.size < w1.heap.size := Nat.lt_of_lt_of_le hl hb.size
  have A1 := Lib.hid (AA.out.below hb)
  clear hb B K AA
  by_cases h1 : a < -1440 ∨ 1440 < a
  · rw [show (decide (-1440 ≤ a) && decide (a ≤ 1440)) = false by simp; omega]
    go_wp2
    refine bodyPost_ret (v := secVal y m d mi s a) (by rw [secVal, if_pos h1]; simp [results, Tryd.results21, go_sem]; first | done | omega) rfl ⟨rfl, K1.out⟩
  rw [show (decide (-1440 ≤ a) && decide (a ≤ 1440)) = true by simp; omega]
  have a1 : ¬ a < -1440 := by omega
  have a2 : ¬ 1440 < a := by omega
  have q0 := B1.out.cell 0
  have q1 := B1.out.cell 1
  have q2 := B1.out.cell 2
  have q3 := B1.out.cell 3
  have q4 := B1.out.cell 4
  have q5 := B1.out.cell 5
  simp only [List.getElem?_toArray, List.getElem?_cons_zero, List.getElem?_cons_succ] at q0 q1 q2 q3 q4 q5
  go_wp2_with fail
  refine (days_any y m d _ A1.out).mono ?_
  by_cases hv : Cv.val y m d
  · have hnr := num_range hv
    have hn0 := hnr.1
    have hn1 := hnr.2
    rw [show dayVal y m d = .tuple #[.int .i64 (Cv.num y m d), .int .i64 0] by unfold dayVal; rw [if_pos hv, if_pos hv]]
    rintro e w2 ⟨rfl, hb⟩
    have B2 := Lib.hid (B1.out.below hb l1)
    have K2 := Lib.hid (below_then K1.out K1.out.size hb)
    clear hb B1 K1 q0 q1 q2 q3 q4 q5 hnr
    have q0 := B2.out.cell 0
    have q1 := B2.out.cell 1
    have q2 := B2.out.cell 2
    have q3 := B2.out.cell 3
    have q4 := B2.out.cell 4
    have q5 := B2.out.cell 5
    simp only [List.getElem?_toArray, List.getElem?_cons_zero, List.getElem?_cons_succ] at q0 q1 q2 q3 q4 q5
    generalize hnn : Cv.num y m d = n at *
    have NN := Lib.hid hnn
    clear hnn
    by_cases c1 : mi < 0
    · have hs : ¬ secOk y m d mi s := fun e => by have := e.2.1; omega
      go_wp2
      refine bodyPost_ret (v := secVal y m d mi s a) (by rw [secVal, if_neg h1, if_neg hs]; simp [results, Tryd.results21, go_sem]; first | done | omega) rfl ⟨rfl, K2.out⟩
    · by_cases c2 : 1440 ≤ mi
      · have c2' : 1439 < mi := by omega
        have hs : ¬ secOk y m d mi s := fun e => by have := e.2.2.1; omega
        go_wp2
        refine bodyPost_ret (v := secVal y m d mi s a) (by rw [secVal, if_neg h1, if_neg hs]; simp [results, Tryd.results21, go_sem]; first | done | omega) rfl ⟨rfl, K2.out⟩
      · have c2' : ¬ 1439 < mi := by omega
        by_cases c3 : s < 0
        · have hs : ¬ secOk y m d mi s := fun e => by have := e.2.2.2.1; omega
          go_wp2
          refine bodyPost_ret (v := secVal y m d mi s a) (by rw [secVal, if_neg h1, if_neg hs]; simp [results, Tryd.results21, go_sem]; first | done | omega) rfl ⟨rfl, K2.out⟩
        · by_cases c4 : 60 ≤ s
          · have c4' : 59 < s := by omega
            have hs : ¬ secOk y m d mi s := fun e => by have := e.2.2.2.2; omega
            go_wp2
            refine bodyPost_ret (v := secVal y m d mi s a) (by rw [secVal, if_neg h1, if_neg hs]; simp [results, Tryd.results21, go_sem]; first | done | omega) rfl ⟨rfl, K2.out⟩
          · have c4' : ¬ 59 < s := by omega
            have hs : secOk y m d mi s := ⟨hv, by omega, by omega, by omega, by omega⟩
            go_wp2
            refine bodyPost_ret (v := secVal y m d mi s a) (by rw [secVal, if_neg h1, if_pos hs, NN.out]; simp [results, Tryd.results21, go_sem]; first | done | omega) rfl ⟨rfl, K2.out⟩
  · rw [show dayVal y m d = .tuple #[.int .i64 0, .int .i64 13] by unfold dayVal; rw [if_neg hv, if_neg hv]]
    rintro e w2 ⟨rfl, hb⟩
    have K2 := Lib.hid (below_then K1.out K1.out.size hb)
    clear hb B1 K1 q0 q1 q2 q3 q4 q5
    have hs : ¬ secOk y m d mi s := fun e => hv e.1
    go_wp2
    refine bodyPost_ret (v := secVal y m d mi s a) (by rw [secVal, if_neg h1, if_neg hs]; simp [results, Tryd.results21, go_sem]; first | done | omega) rfl ⟨rfl, K2.out⟩

set_option maxRecDepth 100000 in
set_option maxHeartbeats 2000000 in
theorem rsecs_any (y m d k mi s a : Int) (w : World) : Calls Tryd.prog 22 #[tagg y m d k mi s, .int .i64 a] w fun e w' => e = .returned (secVal y m d mi s a) ∧ Below w.heap.size w w' := by
  unfold tagg
  have hB := Blk.new w 37 #[.int .i64 y, .int .i64 m, .int .i64 d, .int .i64 k, .int .i64 mi, .int .i64 s]
  have hK : Below w.heap.size w (w.alloc (.cells #[.int .i64 y, .int .i64 m, .int .i64 d, .int .i64 k, .int .i64 mi, .int .i64 s] 37)) := (Below.refl _ _).alloc (Nat.le_refl _) _
  have hl : w.heap.size < (w.alloc (.cells #[.int .i64 y, .int .i64 m, .int .i64 d, .int .i64 k, .int .i64 mi, .int .i64 s] 37)).heap.size := by simp
  go_enter Tryd.func22, Tryd.ntmps22
  go_upto_region 1 with fail
  generalize w.alloc (.cells #[.int .i64 y, .int .i64 m, .int .i64 d, .int .i64 k, .int .i64 mi, .int .i64 s] 37) = W at *
  have B := Lib.hid hB
  have K := Lib.hid hK
  clear hB hK
  have B1 := B
  have K1 := K
  have l1 := hl
  clear B K
  by_cases h1 : a < -1440 ∨ 1440 < a
  · rcases h1 with h1' | h1'
    · have h1 : a < -1440 ∨ 1440 < a := .inl h1'
      go_wp2
      refine bodyPost_ret (v := secVal y m d mi s a) (by rw [secVal, if_pos h1]; simp [results, Tryd.results22, go_sem]; first | done | omega) rfl ⟨rfl, K1.out⟩
    · have h1 : a < -1440 ∨ 1440 < a := .inr h1'
      have h1n : ¬ a < -1440 := by omega
      go_wp2
      refine bodyPost_ret (v := secVal y m d mi s a) (by rw [secVal, if_pos h1]; simp [results, Tryd.results22, go_sem]; first | done | omega) rfl ⟨rfl, K1.out⟩
  have a1 : ¬ a < -1440 := by omega
  have a2 : ¬ 1440 < a := by omega
  have q0 := B1.out.cell 0
  have q1 := B1.out.cell 1
  have q2 := B1.out.cell 2
  have q3 := B1.out.cell 3
  have q4 := B1.out.cell 4
  have q5 := B1.out.cell 5
  simp only [List.getElem?_toArray, List.getElem?_cons_zero, List.getElem?_cons_succ] at q0 q1 q2 q3 q4 q5
  go_wp2_with fail
  refine (rdays_any y m d _).mono ?_
  by_cases hv : Cv.val y m d
  · have hnr := num_range hv
    have hn0 := hnr.1
    have hn1 := hnr.2
    rw [show dayVal y m d = .tuple #[.int .i64 (Cv.num y m d), .int .i64 0] by unfold dayVal; rw [if_pos hv, if_pos hv]]
    rintro e w2 ⟨rfl, hb⟩
    have B2 := Lib.hid (B1.out.below hb l1)
    have K2 := Lib.hid (below_then K1.out K1.out.size hb)
    clear hb B1 K1 q0 q1 q2 q3 q4 q5 hnr
    have q0 := B2.out.cell 0
    have q1 := B2.out.cell 1
    have q2 := B2.out.cell 2
    have q3 := B2.out.cell 3
    have q4 := B2.out.cell 4
    have q5 := B2.out.cell 5
    simp only [List.getElem?_toArray, List.getElem?_cons_zero, List.getElem?_cons_succ] at q0 q1 q2 q3 q4 q5
    generalize hnn : Cv.num y m d = n at *
    have NN := Lib.hid hnn
    clear hnn
    by_cases c1 : mi < 0
    · have hs : ¬ secOk y m d mi s := fun e => by have := e.2.1; omega
      go_wp2
      refine bodyPost_ret (v := secVal y m d mi s a) (by rw [secVal, if_neg h1, if_neg hs]; simp [results, Tryd.results22, go_sem]; first | done | omega) rfl ⟨rfl, K2.out⟩
    · by_cases c2 : 1440 ≤ mi
      · have c2' : 1439 < mi := by omega
        have hs : ¬ secOk y m d mi s := fun e => by have := e.2.2.1; omega
        go_wp2
        refine bodyPost_ret (v := secVal y m d mi s a) (by rw [secVal, if_neg h1, if_neg hs]; simp [results, Tryd.results22, go_sem]; first | done | omega) rfl ⟨rfl, K2.out⟩
      · have c2' : ¬ 1439 < mi := by omega
        by_cases c3 : s < 0
        · have hs : ¬ secOk y m d mi s := fun e => by have := e.2.2.2.1; omega
          go_wp2
          refine bodyPost_ret (v := secVal y m d mi s a) (by rw [secVal, if_neg h1, if_neg hs]; simp [results, Tryd.results22, go_sem]; first | done | omega) rfl ⟨rfl, K2.out⟩
        · by_cases c4 : 60 ≤ s
          · have c4' : 59 < s := by omega
            have hs : ¬ secOk y m d mi s := fun e => by have := e.2.2.2.2; omega
            go_wp2
            refine bodyPost_ret (v := secVal y m d mi s a) (by rw [secVal, if_neg h1, if_neg hs]; simp [results, Tryd.results22, go_sem]; first | done | omega) rfl ⟨rfl, K2.out⟩
          · have c4' : ¬ 59 < s := by omega
            have hs : secOk y m d mi s := ⟨hv, by omega, by omega, by omega, by omega⟩
            go_wp2
            refine bodyPost_ret (v := secVal y m d mi s a) (by rw [secVal, if_neg h1, if_pos hs, NN.out]; simp [results, Tryd.results22, go_sem]; first | done | omega) rfl ⟨rfl, K2.out⟩
  · rw [show dayVal y m d = .tuple #[.int .i64 0, .int .i64 13] by unfold dayVal; rw [if_neg hv, if_neg hv]]
    rintro e w2 ⟨rfl, hb⟩
    have K2 := Lib.hid (below_then K1.out K1.out.size hb)
    clear hb B1 K1 q0 q1 q2 q3 q4 q5
    have hs : ¬ secOk y m d mi s := fun e => hv e.1
    go_wp2
    refine bodyPost_ret (v := secVal y m d mi s a) (by rw [secVal, if_neg h1, if_neg hs]; simp [results, Tryd.results22, go_sem]; first | done | omega) rfl ⟨rfl, K2.out⟩

end Go.Proofs.YtkmkeimofhpkeaaDoor
