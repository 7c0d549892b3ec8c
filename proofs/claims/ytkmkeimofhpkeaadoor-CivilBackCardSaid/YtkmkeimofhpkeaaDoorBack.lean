/- The statement CivilBack: a day is that of its number, and a number that of its day; a second is that of its time, on any clock. Conditions: the table is as the program's text lays it (tied on the card). -/
import Derived.Test.YtkmkeimofhpkeaaDoorTime
import Derived.Test.YtkmkeimofhpkeaaDoorSame
import Derived.Test.YtkmkeimofhpkeaaDoorCards
import Derived.Test.YtkmkeimofhpkeaaDoorTie
import Derived.SevenTiedAt
namespace Go.Proofs.YtkmkeimofhpkeaaDoor
set_option linter.unusedVariables false
set_option linter.unusedSimpArgs false
open Go.ChangeShapes Go.WideShapes Go.ChangeAt Go.RowKit Go.Joins Go.Deep

theorem read_text {y m d mi c : Int} (h : secOk y m d mi c) : readVal (textS y.toNat m.toNat d.toNat mi.toNat c.toNat) = .tuple #[.agg #[.int .i64 y, .int .i64 m, .int .i64 d, .int .i64 ((Cv.num y m d + 4) % 7), .int .i64 mi, .int .i64 c], .int .i64 0] := by
  obtain ⟨v1, v2, v3, v4, v5, v6⟩ := Cv.val_range h.1
  obtain ⟨hv, o1, o2, o3, o4⟩ := h
  have hsec : secOk y m d mi c := ⟨hv, o1, o2, o3, o4⟩
  obtain ⟨Y, rfl⟩ : ∃ n : Nat, y = n := ⟨y.toNat, by omega⟩
  obtain ⟨M, rfl⟩ : ∃ n : Nat, m = n := ⟨m.toNat, by omega⟩
  obtain ⟨D, rfl⟩ : ∃ n : Nat, d = n := ⟨d.toNat, by omega⟩
  obtain ⟨T, rfl⟩ : ∃ n : Nat, mi = n := ⟨mi.toNat, by omega⟩
  obtain ⟨S, rfl⟩ : ∃ n : Nat, c = n := ⟨c.toNat, by omega⟩
  simp only [Int.toNat_natCast]
  obtain ⟨s, hs⟩ : ∃ s, textS Y M D T S = s := ⟨_, rfl⟩
  have h19 : s.length = 19 := by rw [← hs]; rfl
  obtain ⟨t0, t1, t2, t3, h4, t5, t6, h7, t8, t9, h10, t11, t12, h13, t14, t15, h16, t17, t18⟩ := (text_iff h19 Y M D T S).1 hs
  have hd : allD s := by
    refine ⟨⟨?_, ?_⟩, ⟨?_, ?_⟩, ⟨?_, ?_⟩, ⟨?_, ?_⟩, ⟨?_, ?_⟩, ⟨?_, ?_⟩, ⟨?_, ?_⟩, ⟨?_, ?_⟩, ⟨?_, ?_⟩, ⟨?_, ?_⟩, ⟨?_, ?_⟩, ⟨?_, ?_⟩, ⟨?_, ?_⟩, ⟨?_, ?_⟩⟩ <;> omega
  obtain ⟨N0, N1, N2, N3, N4, N5⟩ := NN_vals s
  have n0 : NN s 19 0 = Y := by rw [N0]; omega
  have n1 : NN s 19 1 = M := by rw [N1]; omega
  have n2 : NN s 19 2 = D := by rw [N2]; omega
  have n3 : NN s 19 3 = ((T / 60 : Nat) : Int) := by rw [N3]; omega
  have n4 : NN s 19 4 = ((T % 60 : Nat) : Int) := by rw [N4]; omega
  have n5 : NN s 19 5 = S := by rw [N5]; omega
  have nT : 60 * NN s 19 3 + NN s 19 4 = (T : Int) := by rw [n3, n4]; omega
  have hok : readOk s := ⟨h19, (ok_iff s).2 ⟨hd, h4, h7, h10, h13, h16⟩, by rw [n4]; omega, by rw [n0, n1, n2, nT, n5]; exact hsec⟩
  rw [hs]
  unfold readVal
  rw [if_pos hok, n0, n1, n2, nT, n5]
  exact of_secN hsec

/-- A number's day is a day, and its number. -/
theorem back_day (n : Int) : ∃ Y M D a b, dateVal n = .tuple #[.int .i64 Y, .int .i64 M, .int .i64 D] ∧ dayVal Y M D = .tuple #[.int .i64 a, .int .i64 b] ∧ ((¬ Y = 0 ∧ b = 0 ∧ a = n) ∨ (Y = 0 ∧ M = 0 ∧ D = 0)) := by
  by_cases h : inR n
  · obtain ⟨hv, hn⟩ := Cv.date_law n h.1 h.2
    have hr := Cv.val_range hv
    refine ⟨_, _, _, n, 0, by unfold dateVal; rw [if_pos h], by unfold dayVal; rw [if_pos hv, if_pos hv, hn], .inl ⟨by omega, rfl, rfl⟩⟩
  · exact ⟨0, 0, 0, _, _, by unfold dateVal; rw [if_neg h], rfl, .inr ⟨rfl, rfl, rfl⟩⟩

/-- A second is that of its time. -/
theorem back_sec (s a : Int) : (∃ c, ¬ c = 0 ∧ ofVal s a = .tuple #[.agg #[.int .i64 0, .int .i64 0, .int .i64 0, .int .i64 0, .int .i64 0, .int .i64 0], .int .i64 c]) ∨
    (∃ y m d k mi c tx, ofVal s a = .tuple #[.agg #[.int .i64 y, .int .i64 m, .int .i64 d, .int .i64 k, .int .i64 mi, .int .i64 c], .int .i64 0] ∧ secVal y m d mi c a = .tuple #[.int .i64 s, .int .i64 0] ∧ textVal y m d mi c = .string ⟨(tx : List UInt8).toArray⟩ ∧ tx.length = 19 ∧
      readVal tx = .tuple #[.agg #[.int .i64 y, .int .i64 m, .int .i64 d, .int .i64 k, .int .i64 mi, .int .i64 c], .int .i64 0]) := by
  by_cases h1 : a < -1440 ∨ 1440 < a
  · exact .inl ⟨2, by omega, by unfold ofVal; rw [if_pos h1]; rfl⟩
  · by_cases h2 : s < -1125899906842624 ∨ 1125899906842624 < s
    · exact .inl ⟨13, by omega, by unfold ofVal; rw [if_neg h1, if_pos h2]; rfl⟩
    · by_cases h3 : inR ((s + 60 * a) / 86400)
      · right
        obtain ⟨hv, hn⟩ := Cv.date_law _ h3.1 h3.2
        have hov : ofVal s a = .tuple #[.agg #[.int .i64 (Cv.dateY ((s + 60 * a) / 86400)), .int .i64 (Cv.dateM ((s + 60 * a) / 86400)), .int .i64 (Cv.dD ((s + 60 * a) / 86400)), .int .i64 (((s + 60 * a) / 86400 + 4) % 7), .int .i64 ((s + 60 * a) % 86400 / 60), .int .i64 ((s + 60 * a) % 86400 % 60)], .int .i64 0] := by
          unfold ofVal; rw [if_neg h1, if_neg h2, if_pos h3]; rfl
        generalize hdn : (s + 60 * a) / 86400 = n at *
        generalize hdr : (s + 60 * a) % 86400 = r at *
        generalize Cv.dateY n = Y at *
        generalize Cv.dateM n = M at *
        generalize Cv.dD n = D at *
        have hsec : secOk Y M D (r / 60) (r % 60) := ⟨hv, by omega, by omega, by omega, by omega⟩
        refine ⟨Y, M, D, (n + 4) % 7, r / 60, r % 60, _, hov, ?_, by unfold textVal; rw [if_pos hsec], rfl, ?_⟩
        · unfold secVal
          rw [if_neg h1, if_pos hsec, hn]
          congr 2
          simp only [Array.mk.injEq, List.cons.injEq, Value.int.injEq, true_and, and_true]
          omega
        · rw [read_text hsec, hn]
      · exact .inl ⟨13, by omega, by unfold ofVal; rw [if_neg h1, if_neg h2, if_neg h3]; rfl⟩

set_option maxRecDepth 100000 in
set_option maxHeartbeats 2000000 in
theorem back_law (n s a : Int) (w : World) (hA : AH w) : Calls Tryd.prog 9 #[.int .i64 n, .int .i64 s, .int .i64 a] w fun e w' => e = .returned (.bool true) ∧ Below w.heap.size w w' := by
  obtain ⟨Y, M, D, x, z, hdv, hdy, hcase⟩ := back_day n
  have hbs := back_sec s a
  have HDV := Lib.hid hdv
  have HDY := Lib.hid hdy
  have A0 := Lib.hid hA
  have HBS := Lib.hid hbs
  clear hdv hdy hA hbs
  go_enter Tryd.func9, Tryd.ntmps9
  go_wp2_with fail
  refine (date_any n _ A0.out).mono ?_
  rw [HDV.out]
  rintro e w1 ⟨rfl, hb⟩
  have A1 := Lib.hid (A0.out.below hb)
  have K1 := Lib.hid hb
  clear hb A0
  go_wp2_with fail
  refine (days_any Y M D _ A1.out).mono ?_
  rw [HDY.out]
  rintro e w2 ⟨rfl, hb⟩
  have A2 := Lib.hid (A1.out.below hb)
  have K2 := Lib.hid (below_then K1.out K1.out.size hb)
  clear hb A1 K1
  have hbs := HBS.out
  rcases hcase with ⟨i1, rfl, rfl⟩ | ⟨rfl, rfl, rfl⟩
  · skip
    go_wp2_with fail
    refine (of_any s a _ A2.out).mono ?_
    rcases hbs with ⟨c, hc, hov⟩ | ⟨y, m, d, k, mi, c, tx, hov, hsv, htv, hlen, hrd⟩
    · rw [hov]
      rintro e w3 ⟨rfl, hb⟩
      have A3 := Lib.hid (A2.out.below hb)
      have K3 := Lib.hid (below_then K2.out K2.out.size hb)
      have A4 := Lib.hid (A3.out.below ((Below.refl _ w3).alloc (Nat.le_refl _) (.cells #[.int .i64 0, .int .i64 0, .int .i64 0, .int .i64 0, .int .i64 0, .int .i64 0] 34)))
      have K4 := Lib.hid (K3.out.alloc K3.out.size (.cells #[.int .i64 0, .int .i64 0, .int .i64 0, .int .i64 0, .int .i64 0, .int .i64 0] 34))
      clear hb hov A3 K3
      go_wp2_with fail
      refine (awake_any _ A4.out).mono ?_
      rintro e w5 ⟨rfl, hb⟩
      have K5 := Lib.hid (below_then K4.out K4.out.size hb)
      clear hb
      go_wp2
      go_ret
      exact ⟨rfl, K5.out⟩
    · rw [hov]
      have HSV := Lib.hid hsv
      have HTV := Lib.hid htv
      have HRD := Lib.hid hrd
      clear hsv htv hrd hov
      rintro e w3 ⟨rfl, hb⟩
      have A3 := Lib.hid (A2.out.below hb)
      have K3 := Lib.hid (below_then K2.out K2.out.size hb)
      have A4 := Lib.hid (A3.out.below ((Below.refl _ w3).alloc (Nat.le_refl _) (.cells #[.int .i64 y, .int .i64 m, .int .i64 d, .int .i64 k, .int .i64 mi, .int .i64 c] 34)))
      have K4 := Lib.hid (K3.out.alloc K3.out.size (.cells #[.int .i64 y, .int .i64 m, .int .i64 d, .int .i64 k, .int .i64 mi, .int .i64 c] 34))
      have C4 := Lib.hid (Blk.new w3 34 #[.int .i64 y, .int .i64 m, .int .i64 d, .int .i64 k, .int .i64 mi, .int .i64 c])
      have m4 : w3.heap.size < (w3.alloc (.cells #[.int .i64 y, .int .i64 m, .int .i64 d, .int .i64 k, .int .i64 mi, .int .i64 c] 34)).heap.size := by simp
      clear hb A3 K3
      go_wp2_with fail
      refine (secs_any y m d k mi c a _ A4.out).mono ?_
      rw [HSV.out]
      rintro e w5 ⟨rfl, hb⟩
      have A5 := Lib.hid (A4.out.below hb)
      have K5 := Lib.hid (below_then K4.out K4.out.size hb)
      have C5 := Lib.hid (C4.out.below hb m4)
      have l5 : w3.heap.size < w5.heap.size := Nat.lt_of_lt_of_le m4 hb.size
      clear hb A4 K4 C4
      have q0 := C5.out.cell 0
      have q1 := C5.out.cell 1
      have q2 := C5.out.cell 2
      have q3 := C5.out.cell 3
      have q4 := C5.out.cell 4
      have q5 := C5.out.cell 5
      simp only [List.getElem?_toArray, List.getElem?_cons_zero, List.getElem?_cons_succ] at q0 q1 q2 q3 q4 q5
      go_wp2_with fail
      refine (text_any y m d k mi c _ A5.out).mono ?_
      rw [HTV.out]
      rintro e w6 ⟨rfl, hb⟩
      have A6 := Lib.hid (A5.out.below hb)
      have K6 := Lib.hid (below_then K5.out K5.out.size hb)
      have C6 := Lib.hid (C5.out.below hb l5)
      have l6 : w3.heap.size < w6.heap.size := Nat.lt_of_lt_of_le l5 hb.size
      clear hb A5 K5 C5 q0 q1 q2 q3 q4 q5
      go_wp2_with fail
      refine (read_any tx _ A6.out (by omega)).mono ?_
      rw [HRD.out]
      rintro e w7 ⟨rfl, hb⟩
      have A7 := Lib.hid (A6.out.below hb)
      have K7 := Lib.hid (below_then K6.out K6.out.size hb)
      have C7 := Lib.hid (C6.out.below hb l6)
      have l7 : w3.heap.size < w7.heap.size := Nat.lt_of_lt_of_le l6 hb.size
      clear hb A6 K6 C6
      have A8 := Lib.hid (A7.out.below ((Below.refl _ w7).alloc (Nat.le_refl _) (.cells #[.int .i64 y, .int .i64 m, .int .i64 d, .int .i64 k, .int .i64 mi, .int .i64 c] 34)))
      have K8 := Lib.hid (K7.out.alloc K7.out.size (.cells #[.int .i64 y, .int .i64 m, .int .i64 d, .int .i64 k, .int .i64 mi, .int .i64 c] 34))
      have q0 := C7.out.cell 0
      have q1 := C7.out.cell 1
      have q2 := C7.out.cell 2
      have q3 := C7.out.cell 3
      have q4 := C7.out.cell 4
      have q5 := C7.out.cell 5
      simp only [List.getElem?_toArray, List.getElem?_cons_zero, List.getElem?_cons_succ] at q0 q1 q2 q3 q4 q5
      go_wp2_with fail
      refine (awake_any _ A8.out).mono ?_
      rintro e w9 ⟨rfl, hb⟩
      have K9 := Lib.hid (below_then K8.out K8.out.size hb)
      clear hb
      go_wp2
      go_ret
      exact ⟨rfl, K9.out⟩
  · skip
    go_wp2_with fail
    refine (of_any s a _ A2.out).mono ?_
    rcases hbs with ⟨c, hc, hov⟩ | ⟨y, m, d, k, mi, c, tx, hov, hsv, htv, hlen, hrd⟩
    · rw [hov]
      rintro e w3 ⟨rfl, hb⟩
      have A3 := Lib.hid (A2.out.below hb)
      have K3 := Lib.hid (below_then K2.out K2.out.size hb)
      have A4 := Lib.hid (A3.out.below ((Below.refl _ w3).alloc (Nat.le_refl _) (.cells #[.int .i64 0, .int .i64 0, .int .i64 0, .int .i64 0, .int .i64 0, .int .i64 0] 34)))
      have K4 := Lib.hid (K3.out.alloc K3.out.size (.cells #[.int .i64 0, .int .i64 0, .int .i64 0, .int .i64 0, .int .i64 0, .int .i64 0] 34))
      clear hb hov A3 K3
      go_wp2_with fail
      refine (awake_any _ A4.out).mono ?_
      rintro e w5 ⟨rfl, hb⟩
      have K5 := Lib.hid (below_then K4.out K4.out.size hb)
      clear hb
      go_wp2
      go_ret
      exact ⟨rfl, K5.out⟩
    · rw [hov]
      have HSV := Lib.hid hsv
      have HTV := Lib.hid htv
      have HRD := Lib.hid hrd
      clear hsv htv hrd hov
      rintro e w3 ⟨rfl, hb⟩
      have A3 := Lib.hid (A2.out.below hb)
      have K3 := Lib.hid (below_then K2.out K2.out.size hb)
      have A4 := Lib.hid (A3.out.below ((Below.refl _ w3).alloc (Nat.le_refl _) (.cells #[.int .i64 y, .int .i64 m, .int .i64 d, .int .i64 k, .int .i64 mi, .int .i64 c] 34)))
      have K4 := Lib.hid (K3.out.alloc K3.out.size (.cells #[.int .i64 y, .int .i64 m, .int .i64 d, .int .i64 k, .int .i64 mi, .int .i64 c] 34))
      have C4 := Lib.hid (Blk.new w3 34 #[.int .i64 y, .int .i64 m, .int .i64 d, .int .i64 k, .int .i64 mi, .int .i64 c])
      have m4 : w3.heap.size < (w3.alloc (.cells #[.int .i64 y, .int .i64 m, .int .i64 d, .int .i64 k, .int .i64 mi, .int .i64 c] 34)).heap.size := by simp
      clear hb A3 K3
      go_wp2_with fail
      refine (secs_any y m d k mi c a _ A4.out).mono ?_
      rw [HSV.out]
      rintro e w5 ⟨rfl, hb⟩
      have A5 := Lib.hid (A4.out.below hb)
      have K5 := Lib.hid (below_then K4.out K4.out.size hb)
      have C5 := Lib.hid (C4.out.below hb m4)
      have l5 : w3.heap.size < w5.heap.size := Nat.lt_of_lt_of_le m4 hb.size
      clear hb A4 K4 C4
      have q0 := C5.out.cell 0
      have q1 := C5.out.cell 1
      have q2 := C5.out.cell 2
      have q3 := C5.out.cell 3
      have q4 := C5.out.cell 4
      have q5 := C5.out.cell 5
      simp only [List.getElem?_toArray, List.getElem?_cons_zero, List.getElem?_cons_succ] at q0 q1 q2 q3 q4 q5
      go_wp2_with fail
      refine (text_any y m d k mi c _ A5.out).mono ?_
      rw [HTV.out]
      rintro e w6 ⟨rfl, hb⟩
      have A6 := Lib.hid (A5.out.below hb)
      have K6 := Lib.hid (below_then K5.out K5.out.size hb)
      have C6 := Lib.hid (C5.out.below hb l5)
      have l6 : w3.heap.size < w6.heap.size := Nat.lt_of_lt_of_le l5 hb.size
      clear hb A5 K5 C5 q0 q1 q2 q3 q4 q5
      go_wp2_with fail
      refine (read_any tx _ A6.out (by omega)).mono ?_
      rw [HRD.out]
      rintro e w7 ⟨rfl, hb⟩
      have A7 := Lib.hid (A6.out.below hb)
      have K7 := Lib.hid (below_then K6.out K6.out.size hb)
      have C7 := Lib.hid (C6.out.below hb l6)
      have l7 : w3.heap.size < w7.heap.size := Nat.lt_of_lt_of_le l6 hb.size
      clear hb A6 K6 C6
      have A8 := Lib.hid (A7.out.below ((Below.refl _ w7).alloc (Nat.le_refl _) (.cells #[.int .i64 y, .int .i64 m, .int .i64 d, .int .i64 k, .int .i64 mi, .int .i64 c] 34)))
      have K8 := Lib.hid (K7.out.alloc K7.out.size (.cells #[.int .i64 y, .int .i64 m, .int .i64 d, .int .i64 k, .int .i64 mi, .int .i64 c] 34))
      have q0 := C7.out.cell 0
      have q1 := C7.out.cell 1
      have q2 := C7.out.cell 2
      have q3 := C7.out.cell 3
      have q4 := C7.out.cell 4
      have q5 := C7.out.cell 5
      simp only [List.getElem?_toArray, List.getElem?_cons_zero, List.getElem?_cons_succ] at q0 q1 q2 q3 q4 q5
      go_wp2_with fail
      refine (awake_any _ A8.out).mono ?_
      rintro e w9 ⟨rfl, hb⟩
      have K9 := Lib.hid (below_then K8.out K8.out.size hb)
      clear hb
      go_wp2
      go_ret
      exact ⟨rfl, K9.out⟩

set_option maxRecDepth 100000 in
theorem civilBack_lifted (os : Os) (started : os.Started) (H : Type) (enc : TypeId × Value → H) :
    ReturnsInHanded {} Tryd.checked os 9 .any (fun w args => (Rows.civilBackSpec.pre enc Tryd.prog Tryd.f9 [] false w args ∧ laidMetH Tryd.prog laidA w) ∧ sizedMet enc Tryd.prog Tryd.f9 (OpenSpec.ofChange Rows.civilBackSpec) false w args)
      (Rows.civilBackSpec.post enc Tryd.prog Tryd.f9 false true false false) := by
  refine returnsInHanded_of_change_and (C := Tryd.checked) (X := fun w _ => laidMetH Tryd.prog laidA w) (fun _ _ _ hh h => h.of_heap hh) tOwn started (by kernel_rfl) Tryd.func9
    (ChangeSpec.witness_shaped (enc := enc) (C := Tryd.checked) (os := os) (X := fun w _ => laidMetH Tryd.prog laidA w) false (World.doorLaid Tryd.prog 400 os) #[.int .i64 0, .int .i64 0, .int .i64 0] 8 rfl (World.shaped_of_RefB (by kernel_rfl) (by kernel_rfl)) (by kernel_rfl) (by kernel_rfl) (by kernel_rfl) (door_met os _)) ?_
  intro W base args ds gs before hval0 hW _ _ hL _
  have hval : ∀ (j : Nat) t v, Tryd.f9.params[j]? = some t → args[j]? = some v → Value.okWide Tryd.prog W .any base t v := hval0
  have hW' := hW
  obtain ⟨p, q, hA0, hV, rfl, hfz, hnd⟩ := hW
  have hA : DataW.TrodAll enc Tryd.prog W 0 (fun _ => true) true Tryd.f9.params.toList args.toList ds p := hA0
  rw [Tryd.params9] at hA hval
  obtain ⟨v0, vs0, d0, ds0, p0, q0, hargs, rfl, rfl, h0, r0⟩ := trodAll_cons hA
  obtain ⟨v1, vs1, d1, ds1, p1, q1, rfl, rfl, rfl, h1, r1⟩ := trodAll_cons r0
  obtain ⟨v2, vs2, d2, ds2, p2, q2, rfl, rfl, rfl, h2, r2⟩ := trodAll_cons r1
  obtain ⟨rfl, rfl, rfl⟩ := trodAll_nil r2
  obtain rfl : args = #[v0, v1, v2] := by cases args; simp_all
  obtain ⟨n, rfl, rfl, rfl, wn⟩ := open_int Tryd.underlying3 (hval 0 3 v0 rfl rfl) h0
  obtain ⟨s, rfl, rfl, rfl, ws⟩ := open_int Tryd.underlying3 (hval 1 3 v1 rfl rfl) h1
  obtain ⟨a, rfl, rfl, rfl, wa⟩ := open_int Tryd.underlying3 (hval 2 3 v2 rfl rfl) h2
  refine (back_law n s a W (ah_of_laid hL)).mono fun e W' ⟨he, hb⟩ => ?_
  subst he
  exact ⟨_, rfl, law_post tLaid (by decide +kernel) hW' rfl (by kernel_rfl) Tryd.underlying4 rfl hb⟩

theorem civilBack_row : Rows.CivilBackSaid :=
  OpenClaim.holds_of_wide 9 Tryd.f9 rfl rfl rfl rfl rfl rfl rfl ⟨rfl, rfl, rfl, rfl, rfl⟩ rfl rfl rfl rfl rfl (by kernel_rfl) Tryd.func9 (by kernel_rfl)
    (of_decide_eq_true (by kernel_rfl)) (by unfold Func.isWrapper; rw [if_neg (of_decide_eq_false (by kernel_rfl))]; exact ⟨rfl, rfl⟩)
    (fun os started H enc _ => civilBack_lifted os started H enc)

/-- The statement: the tied card. -/
theorem civilBack_holds : Rows.CivilBackCardSaid :=
  Claim7.holds_tied_plain_at .later [] [.data] true (true, "7a54627c4d33d3471ccb311b10eaade565bb5abb21a7a417936f7409417c04b8") false
    civilBack_row (fun _ h => by cases h) (by kernel_rfl) (fun _ h => by cases h) civilBack_row_tie rfl ⟨rfl, rfl⟩ (by kernel_rfl) rfl
    (fun f fn hf hfn => by
      obtain rfl : f = 9 := Option.some.inj ((show Tryd.prog.funcNamed "watchfire/watchfirelaw25.CivilBack" = some 9 by kernel_rfl).symm.trans hf) |>.symm
      obtain rfl : fn = Tryd.f9 := (Option.some.inj (Tryd.func9.symm.trans hfn)).symm
      exact ⟨by kernel_rfl, fun j t ht => by
        rw [Tryd.params9] at ht
        have hm : t ∈ [3, 3, 3] := by simpa using Array.mem_of_getElem? ht
        have hall : ([3, 3, 3].all fun u => !Tryd.prog.wantsStandIn u) = true := by kernel_rfl
        exact (show Tryd.prog.wantsStandIn t = false by simpa using List.all_eq_true.1 hall t hm)⟩)
    (by kernel_rfl)
#print axioms civilBack_holds

end Go.Proofs.YtkmkeimofhpkeaaDoor
