/- WALK: the document's Read. -/
import Derived.Test.YtkmkeimofhpkeaaDoorRead
namespace Go.Proofs.YtkmkeimofhpkeaaDoor
set_option linter.unusedVariables false
set_option linter.unusedSimpArgs false
open Go.RowKit

def rOk (s : List UInt8) : Prop := s.length = 19 ∧ secOk (numR s 0 4) (numR s 5 2) (numR s 8 2) (60 * numR s 11 2 + numR s 14 2) (numR s 17 2) ∧
  textS (numR s 0 4).toNat (numR s 5 2).toNat (numR s 8 2).toNat (60 * numR s 11 2 + numR s 14 2).toNat (numR s 17 2).toNat = s
instance (s : List UInt8) : Decidable (rOk s) := by unfold rOk; infer_instance
def rreadVal (s : List UInt8) : Value :=
  if rOk s then ofVal (secN (numR s 0 4) (numR s 5 2) (numR s 8 2) (60 * numR s 11 2 + numR s 14 2) (numR s 17 2)) 0 else .tuple #[tagg 0 0 0 0 0 0, .int .i64 4]
theorem rreadVal_no {s : List UInt8} (h : ¬ rOk s) : rreadVal s = .tuple #[tagg 0 0 0 0 0 0, .int .i64 4] := by unfold rreadVal; rw [if_neg h]
theorem numR_range (s : List UInt8) (a n : Nat) (hn : n ≤ 4) : -1 ≤ numR s a n ∧ numR s a n < 10000 := by
  unfold numR
  split
  · rename_i h
    have h1 := numF_bound s a n h
    have h10 : (10 : Int) ^ n ≤ 10000 := by
      rcases (by omega : n = 0 ∨ n = 1 ∨ n = 2 ∨ n = 3 ∨ n = 4) with rfl | rfl | rfl | rfl | rfl <;> decide
    omega
  · omega
theorem of_secN {y m d mi c : Int} (h : secOk y m d mi c) : ofVal (secN y m d mi c) 0 = .tuple #[.agg #[.int .i64 y, .int .i64 m, .int .i64 d, .int .i64 ((Cv.num y m d + 4) % 7), .int .i64 mi, .int .i64 c], .int .i64 0] := by
  obtain ⟨hv, o1, o2, o3, o4⟩ := h
  have hr := num_range hv
  obtain ⟨a, b⟩ := Cv.date_law (Cv.num y m d) hr.1 hr.2
  obtain ⟨e1, e2, e3⟩ := Cv.num_inj a hv b
  have hin : inR (Cv.num y m d) := hr
  have h1 := hr.1
  have h2 := hr.2
  have q1 : (secN y m d mi c + 60 * 0) / 86400 = Cv.num y m d := by unfold secN; omega
  have q2 : (secN y m d mi c + 60 * 0) % 86400 = 60 * mi + c := by unfold secN; omega
  have q3 : (60 * mi + c) / 60 = mi := by omega
  have q4 : (60 * mi + c) % 60 = c := by omega
  unfold ofVal
  rw [if_neg (by omega), if_neg (by unfold secN; omega), q1, q2, if_pos hin, e1, e2, e3, q3, q4]
  rfl

set_option maxRecDepth 100000 in
set_option maxHeartbeats 4000000 in
theorem rread_any (s : List UInt8) (w : World) (hsz : s.length ≤ 9223372036854775807) : Calls Tryd.prog 24 #[.string ⟨s.toArray⟩] w fun e w' => e = .returned (rreadVal s) ∧ Below w.heap.size w w' := by
  have hss : (⟨s.toArray⟩ : ByteArray).size = s.length := by simp [ByteArray.size]
  by_cases h19 : s.length = 19
  · have hK : Below w.heap.size w (w.alloc (.cells #[.int .i64 0, .int .i64 0, .int .i64 0, .int .i64 0, .int .i64 0, .int .i64 0] 37)) := (Below.refl _ _).alloc (Nat.le_refl _) _
    have hB : Blk (w.alloc (.cells #[.int .i64 0, .int .i64 0, .int .i64 0, .int .i64 0, .int .i64 0, .int .i64 0] 37)) w.heap.size 37 #[.int .i64 0, .int .i64 0, .int .i64 0, .int .i64 0, .int .i64 0, .int .i64 0] := Blk.new w 37 _
    have r0 := numR_range s 0 4 (by omega)
    have r1 := numR_range s 5 2 (by omega)
    have r2 := numR_range s 8 2 (by omega)
    have r3 := numR_range s 11 2 (by omega)
    have r4 := numR_range s 14 2 (by omega)
    have r5 := numR_range s 17 2 (by omega)
    have hro : rOk s ↔ secOk (numR s 0 4) (numR s 5 2) (numR s 8 2) (60 * numR s 11 2 + numR s 14 2) (numR s 17 2) ∧
      textS (numR s 0 4).toNat (numR s 5 2).toNat (numR s 8 2).toNat (60 * numR s 11 2 + numR s 14 2).toNat (numR s 17 2).toNat = s := ⟨fun h => h.2, fun h => ⟨h19, h⟩⟩
    have hrv : rreadVal s = if rOk s then ofVal (secN (numR s 0 4) (numR s 5 2) (numR s 8 2) (60 * numR s 11 2 + numR s 14 2) (numR s 17 2)) 0 else .tuple #[tagg 0 0 0 0 0 0, .int .i64 4] := rfl
    obtain ⟨y, hy⟩ : ∃ y, numR s 0 4 = y := ⟨_, rfl⟩
    obtain ⟨m, hm⟩ : ∃ y, numR s 5 2 = y := ⟨_, rfl⟩
    obtain ⟨d, hd⟩ : ∃ y, numR s 8 2 = y := ⟨_, rfl⟩
    obtain ⟨h, hh⟩ : ∃ y, numR s 11 2 = y := ⟨_, rfl⟩
    obtain ⟨n, hn⟩ : ∃ y, numR s 14 2 = y := ⟨_, rfl⟩
    obtain ⟨c, hc⟩ : ∃ y, numR s 17 2 = y := ⟨_, rfl⟩
    rw [hy, hm, hd, hh, hn, hc] at hro hrv
    rw [hy] at r0
    rw [hm] at r1
    rw [hd] at r2
    rw [hh] at r3
    rw [hn] at r4
    rw [hc] at r5
    have Ey := Lib.hid hy
    have Em := Lib.hid hm
    have Ed := Lib.hid hd
    have Eh := Lib.hid hh
    have En := Lib.hid hn
    have Ec := Lib.hid hc
    have RO := Lib.hid hro
    have RV := Lib.hid hrv
    clear hy hm hd hh hn hc hro hrv
    obtain ⟨r00, r01⟩ := r0
    obtain ⟨r10, r11⟩ := r1
    obtain ⟨r20, r21⟩ := r2
    obtain ⟨r30, r31⟩ := r3
    obtain ⟨r40, r41⟩ := r4
    obtain ⟨r50, r51⟩ := r5
    go_enter Tryd.func24, Tryd.ntmps24
    go_upto_region 1 with fail
    generalize w.alloc (.cells #[.int .i64 0, .int .i64 0, .int .i64 0, .int .i64 0, .int .i64 0, .int .i64 0] 37) = W at *
    have B0 := Lib.hid hB
    have K0 := Lib.hid hK
    clear hB hK
    go_wp2_with fail
    refine (number_any s 0 4 _ h19 (by omega) (by omega)).mono ?_
    rw [Ey.out]
    rintro e w1 ⟨rfl, hb⟩
    have B1 := Lib.hid (B0.out.below hb (Blk.lt B0.out))
    have K1 := Lib.hid (below_then K0.out K0.out.size hb)
    clear hb B0 K0
    go_wp2_with fail
    refine (number_any s 5 2 _ h19 (by omega) (by omega)).mono ?_
    rw [Em.out]
    rintro e w2 ⟨rfl, hb⟩
    have B2 := Lib.hid (B1.out.below hb (Blk.lt B1.out))
    have K2 := Lib.hid (below_then K1.out K1.out.size hb)
    clear hb B1 K1
    go_wp2_with fail
    refine (number_any s 8 2 _ h19 (by omega) (by omega)).mono ?_
    rw [Ed.out]
    rintro e w3 ⟨rfl, hb⟩
    have B3 := Lib.hid (B2.out.below hb (Blk.lt B2.out))
    have K3 := Lib.hid (below_then K2.out K2.out.size hb)
    clear hb B2 K2
    go_wp2_with fail
    refine (number_any s 11 2 _ h19 (by omega) (by omega)).mono ?_
    rw [Eh.out]
    rintro e w4 ⟨rfl, hb⟩
    have B4 := Lib.hid (B3.out.below hb (Blk.lt B3.out))
    have K4 := Lib.hid (below_then K3.out K3.out.size hb)
    clear hb B3 K3
    go_wp2_with fail
    refine (number_any s 14 2 _ h19 (by omega) (by omega)).mono ?_
    rw [En.out]
    rintro e w5 ⟨rfl, hb⟩
    have B5 := Lib.hid (B4.out.below hb (Blk.lt B4.out))
    have K5 := Lib.hid (below_then K4.out K4.out.size hb)
    clear hb B4 K4
    go_wp2_with fail
    refine (number_any s 17 2 _ h19 (by omega) (by omega)).mono ?_
    rw [Ec.out]
    rintro e w6 ⟨rfl, hb⟩
    have B6 := Lib.hid (B5.out.below hb (Blk.lt B5.out))
    have K6 := Lib.hid (below_then K5.out K5.out.size hb)
    clear hb B5 K5
    go_upto_region 4 with fail
    have T7 := Lib.hid (Blk.new w6 37 #[.int .i64 y, .int .i64 m, .int .i64 d, .int .i64 0, .int .i64 (60 * h + n), .int .i64 c])
    have B7 := Lib.hid (B6.out.alloc (.cells #[.int .i64 y, .int .i64 m, .int .i64 d, .int .i64 0, .int .i64 (60 * h + n), .int .i64 c] 37))
    have K7 := Lib.hid (K6.out.alloc K6.out.size (.cells #[.int .i64 y, .int .i64 m, .int .i64 d, .int .i64 0, .int .i64 (60 * h + n), .int .i64 c] 37))
    have l7 : w6.heap.size < (w6.alloc (.cells #[.int .i64 y, .int .i64 m, .int .i64 d, .int .i64 0, .int .i64 (60 * h + n), .int .i64 c] 37)).heap.size := by simp
    have hgl := Blk.lt B6.out
    clear B6 K6
    go_wp2_with fail
    refine (rsecs_any y m d 0 (60 * h + n) c 0 _).mono ?_
    by_cases hsec : secOk y m d (60 * h + n) c
    · rw [show secVal y m d (60 * h + n) c 0 = .tuple #[.int .i64 (86400 * Cv.num y m d + 60 * (60 * h + n) + c - 60 * 0), .int .i64 0] by rw [secVal, if_neg (by omega), if_pos hsec]]
      have he : 86400 * Cv.num y m d + 60 * (60 * h + n) + c - 60 * 0 = secN y m d (60 * h + n) c := by unfold secN; omega
      rw [he]
      have htv : textVal y m d (60 * h + n) c = .string ⟨(textS y.toNat m.toNat d.toNat (60 * h + n).toNat c.toNat).toArray⟩ := by rw [textVal, if_pos hsec]
      obtain ⟨x0, x1, x2, x3, x4, x5, hov⟩ : ∃ x0 x1 x2 x3 x4 x5, ofVal (secN y m d (60 * h + n) c) 0 = .tuple #[.agg #[.int .i64 x0, .int .i64 x1, .int .i64 x2, .int .i64 x3, .int .i64 x4, .int .i64 x5], .int .i64 0] := ⟨_, _, _, _, _, _, of_secN hsec⟩
      have TV := Lib.hid htv
      have HOV := Lib.hid hov
      have HSEC := Lib.hid hsec
      clear htv hov hsec he
      generalize hts : textS y.toNat m.toNat d.toNat (60 * h + n).toNat c.toNat = ts at *
      generalize secN y m d (60 * h + n) c = sn at *
      have HTS := Lib.hid hts
      clear hts
      rintro e w8 ⟨rfl, hb⟩
      have T8 := Lib.hid (T7.out.below hb l7)
      have B8 := Lib.hid (B7.out.below hb (Nat.lt_trans hgl l7))
      have K8 := Lib.hid (below_then K7.out K7.out.size hb)
      have l8 : w6.heap.size < w8.heap.size := Nat.lt_of_lt_of_le l7 hb.size
      have l8' : w.heap.size < w8.heap.size := by omega
      clear hb T7 B7 K7
      have t0 := T8.out.cell 0
      have t1 := T8.out.cell 1
      have t2 := T8.out.cell 2
      have t3 := T8.out.cell 3
      have t4 := T8.out.cell 4
      have t5 := T8.out.cell 5
      simp only [List.getElem?_toArray, List.getElem?_cons_zero, List.getElem?_cons_succ] at t0 t1 t2 t3 t4 t5
      go_wp2_with fail
      refine (rtext_any y m d 0 (60 * h + n) c _).mono ?_
      rw [TV.out]
      rintro e w9 ⟨rfl, hb⟩
      have T9 := Lib.hid (T8.out.below hb l8)
      have B9 := Lib.hid (B8.out.below hb l8')
      have K9 := Lib.hid (below_then K8.out K8.out.size hb)
      have l9 : w6.heap.size < w9.heap.size := Nat.lt_of_lt_of_le l8 hb.size
      clear hb T8 B8 K8 t0 t1 t2 t3 t4 t5
      have q0 := B9.out.cell 0
      have q1 := B9.out.cell 1
      have q2 := B9.out.cell 2
      have q3 := B9.out.cell 3
      have q4 := B9.out.cell 4
      have q5 := B9.out.cell 5
      simp only [List.getElem?_toArray, List.getElem?_cons_zero, List.getElem?_cons_succ] at q0 q1 q2 q3 q4 q5
      have qf := B9.out.frozen
      by_cases heq : ts = s
      · have hbe : (ts == s) = true := by simpa using heq
        have hrv : rreadVal s = ofVal sn 0 := by rw [RV.out, if_pos (RO.out.2 ⟨HSEC.out, heq⟩)]
        have HRV := Lib.hid hrv
        clear hrv
        go_wp2_with fail
        refine (rof_any sn 0 _).mono ?_
        rw [HOV.out]
        rintro e wa ⟨rfl, hb⟩
        have Ta := Lib.hid (T9.out.below hb l9)
        have Ba := Lib.hid (B9.out.below hb (Blk.lt B9.out))
        have Ka := Lib.hid (below_then K9.out K9.out.size hb)
        clear hb T9 B9 K9 q0 q1 q2 q3 q4 q5 qf
        have t0 := Ta.out.cell 0
        have t1 := Ta.out.cell 1
        have t2 := Ta.out.cell 2
        have t3 := Ta.out.cell 3
        have t4 := Ta.out.cell 4
        have t5 := Ta.out.cell 5
        simp only [List.getElem?_toArray, List.getElem?_cons_zero, List.getElem?_cons_succ] at t0 t1 t2 t3 t4 t5
        have tf := Ta.out.frozen
        have q0 := Ba.out.cell 0
        have q1 := Ba.out.cell 1
        have q2 := Ba.out.cell 2
        have q3 := Ba.out.cell 3
        have q4 := Ba.out.cell 4
        have q5 := Ba.out.cell 5
        simp only [List.getElem?_toArray, List.getElem?_cons_zero, List.getElem?_cons_succ] at q0 q1 q2 q3 q4 q5
        have qf := Ba.out.frozen
        have hne : w.heap.size ≠ w6.heap.size := by omega
        have hne2 : w6.heap.size ≠ w.heap.size := by omega
        go_upto_region 8 with fail
        have Xb := Lib.hid (Blk.six Ta.out (.int .i64 x0) (.int .i64 x1) (.int .i64 x2) (.int .i64 x3) (.int .i64 x4) (.int .i64 x5))
        have Yb := Lib.hid ((((((Ba.out.far (p := ⟨w6.heap.size, 0, none⟩) hne (.int .i64 x0)).far (p := ⟨w6.heap.size, 1, none⟩) hne (.int .i64 x1)).far (p := ⟨w6.heap.size, 2, none⟩) hne (.int .i64 x2)).far (p := ⟨w6.heap.size, 3, none⟩) hne (.int .i64 x3)).far (p := ⟨w6.heap.size, 4, none⟩) hne (.int .i64 x4)).far (p := ⟨w6.heap.size, 5, none⟩) hne (.int .i64 x5))
        have Kb := Lib.hid (below_six Ka.out (show w.heap.size ≤ w6.heap.size by omega) (.int .i64 x0) (.int .i64 x1) (.int .i64 x2) (.int .i64 x3) (.int .i64 x4) (.int .i64 x5))
        clear t0 t1 t2 t3 t4 t5 q0 q1 q2 q3 q4 q5 qf tf Ta Ba Ka
        generalize ((((((wa.setCell ⟨w6.heap.size, 0, none⟩ (.int .i64 x0)).setCell ⟨w6.heap.size, 1, none⟩ (.int .i64 x1)).setCell ⟨w6.heap.size, 2, none⟩ (.int .i64 x2)).setCell ⟨w6.heap.size, 3, none⟩ (.int .i64 x3)).setCell ⟨w6.heap.size, 4, none⟩ (.int .i64 x4)).setCell ⟨w6.heap.size, 5, none⟩ (.int .i64 x5)) = wb at *
        have t0 := Xb.out.cell 0
        have t1 := Xb.out.cell 1
        have t2 := Xb.out.cell 2
        have t3 := Xb.out.cell 3
        have t4 := Xb.out.cell 4
        have t5 := Xb.out.cell 5
        simp only [List.getElem?_toArray, List.getElem?_cons_zero, List.getElem?_cons_succ] at t0 t1 t2 t3 t4 t5
        have q0 := Yb.out.cell 0
        have q1 := Yb.out.cell 1
        have q2 := Yb.out.cell 2
        have q3 := Yb.out.cell 3
        have q4 := Yb.out.cell 4
        have q5 := Yb.out.cell 5
        simp only [List.getElem?_toArray, List.getElem?_cons_zero, List.getElem?_cons_succ] at q0 q1 q2 q3 q4 q5
        have qf := Yb.out.frozen
        have fb := Blk.six Yb.out (.int .i64 x0) (.int .i64 x1) (.int .i64 x2) (.int .i64 x3) (.int .i64 x4) (.int .i64 x5)
        have fk := below_six Kb.out (Nat.le_refl _) (.int .i64 x0) (.int .i64 x1) (.int .i64 x2) (.int .i64 x3) (.int .i64 x4) (.int .i64 x5)
        have s0 := fb.cell 0
        have s1 := fb.cell 1
        have s2 := fb.cell 2
        have s3 := fb.cell 3
        have s4 := fb.cell 4
        have s5 := fb.cell 5
        simp only [List.getElem?_toArray, List.getElem?_cons_zero, List.getElem?_cons_succ] at s0 s1 s2 s3 s4 s5
        have FB := Lib.hid (⟨s0, s1, s2, s3, s4, s5, fk⟩ : _ ∧ _ ∧ _ ∧ _ ∧ _ ∧ _ ∧ _)
        clear fb fk s0 s1 s2 s3 s4 s5
        go_wp2
        obtain ⟨s0, s1, s2, s3, s4, s5, fk⟩ := FB.out
        refine bodyPost_ret (v := rreadVal s) ?_ rfl ⟨rfl, ?_⟩
        · rw [HRV.out, HOV.out]
          simp [results, Tryd.results24, go_sem, s0, s1, s2, s3, s4, s5]
        · exact fk
      · have hno : ¬ rOk s := fun e => heq (RO.out.1 e).2
        have hbe : (ts == s) = false := by simpa using heq
        have fb := Blk.six B9.out (.int .i64 0) (.int .i64 0) (.int .i64 0) (.int .i64 0) (.int .i64 0) (.int .i64 0)
        have fk := below_six K9.out (Nat.le_refl _) (.int .i64 0) (.int .i64 0) (.int .i64 0) (.int .i64 0) (.int .i64 0) (.int .i64 0)
        have s0 := fb.cell 0
        have s1 := fb.cell 1
        have s2 := fb.cell 2
        have s3 := fb.cell 3
        have s4 := fb.cell 4
        have s5 := fb.cell 5
        simp only [List.getElem?_toArray, List.getElem?_cons_zero, List.getElem?_cons_succ] at s0 s1 s2 s3 s4 s5
        have FB := Lib.hid (⟨s0, s1, s2, s3, s4, s5, fk⟩ : _ ∧ _ ∧ _ ∧ _ ∧ _ ∧ _ ∧ _)
        clear fb fk s0 s1 s2 s3 s4 s5
        go_wp2
        obtain ⟨s0, s1, s2, s3, s4, s5, fk⟩ := FB.out
        refine bodyPost_ret (v := rreadVal s) ?_ rfl ⟨rfl, ?_⟩
        · rw [rreadVal_no hno]
          simp [results, Tryd.results24, go_sem, tagg, s0, s1, s2, s3, s4, s5]
        · exact fk
    · rw [show secVal y m d (60 * h + n) c 0 = .tuple #[.int .i64 0, .int .i64 13] by rw [secVal, if_neg (by omega), if_neg hsec]]
      have hno : ¬ rOk s := fun e => hsec (RO.out.1 e).1
      rintro e w8 ⟨rfl, hb⟩
      have B8 := Lib.hid (B7.out.below hb (Nat.lt_trans hgl l7))
      have K8 := Lib.hid (below_then K7.out K7.out.size hb)
      clear hb T7 B7 K7
      have q0 := B8.out.cell 0
      have q1 := B8.out.cell 1
      have q2 := B8.out.cell 2
      have q3 := B8.out.cell 3
      have q4 := B8.out.cell 4
      have q5 := B8.out.cell 5
      simp only [List.getElem?_toArray, List.getElem?_cons_zero, List.getElem?_cons_succ] at q0 q1 q2 q3 q4 q5
      have qf := B8.out.frozen
      have fb := Blk.six B8.out (.int .i64 0) (.int .i64 0) (.int .i64 0) (.int .i64 0) (.int .i64 0) (.int .i64 0)
      have fk := below_six K8.out (Nat.le_refl _) (.int .i64 0) (.int .i64 0) (.int .i64 0) (.int .i64 0) (.int .i64 0) (.int .i64 0)
      have s0 := fb.cell 0
      have s1 := fb.cell 1
      have s2 := fb.cell 2
      have s3 := fb.cell 3
      have s4 := fb.cell 4
      have s5 := fb.cell 5
      simp only [List.getElem?_toArray, List.getElem?_cons_zero, List.getElem?_cons_succ] at s0 s1 s2 s3 s4 s5
      have FB := Lib.hid (⟨s0, s1, s2, s3, s4, s5, fk⟩ : _ ∧ _ ∧ _ ∧ _ ∧ _ ∧ _ ∧ _)
      clear fb fk s0 s1 s2 s3 s4 s5
      go_wp2
      obtain ⟨s0, s1, s2, s3, s4, s5, fk⟩ := FB.out
      refine bodyPost_ret (v := rreadVal s) ?_ rfl ⟨rfl, ?_⟩
      · rw [rreadVal_no hno]
        simp [results, Tryd.results24, go_sem, tagg, s0, s1, s2, s3, s4, s5]
      · exact fk
  · have hno : ¬ rOk s := fun e => h19 e.1
    have hn : ¬ ((s.length : Int) = 19) := by omega
    go_enter Tryd.func24, Tryd.ntmps24
    go_wp2
    exact bodyPost_ret (v := rreadVal s) (by rw [rreadVal_no hno]; simp [results, Tryd.results24, go_sem, tagg]) rfl ⟨rfl, (Below.refl _ _).alloc (Nat.le_refl _) _⟩

end Go.Proofs.YtkmkeimofhpkeaaDoor
