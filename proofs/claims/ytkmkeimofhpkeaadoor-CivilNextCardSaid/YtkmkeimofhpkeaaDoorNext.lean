/- The statement CivilNext: the day behind a day is the next one of its month, or the first one of the next month, or of the next year; weekdays go on by one. Conditions: the table is as the program's text lays it (tied on the card). -/
import Derived.Test.YtkmkeimofhpkeaaDoorOpen
import Derived.Test.YtkmkeimofhpkeaaDoorCards
import Derived.Test.YtkmkeimofhpkeaaDoorTie
import Derived.SevenTiedAt
namespace Go.Proofs.YtkmkeimofhpkeaaDoor
set_option linter.unusedVariables false
set_option linter.unusedSimpArgs false
open Go.ChangeShapes Go.WideShapes Go.ChangeAt Go.RowKit Go.Joins Go.Deep

theorem date_of_num {y m d : Int} (h : Cv.val y m d) : dateVal (Cv.num y m d) = .tuple #[.int .i64 y, .int .i64 m, .int .i64 d] := by
  have hr := num_range h
  obtain ⟨a, b⟩ := Cv.date_law (Cv.num y m d) hr.1 hr.2
  obtain ⟨e1, e2, e3⟩ := Cv.num_inj a h b
  have hin : inR (Cv.num y m d) := hr
  unfold dateVal
  rw [if_pos hin, e1, e2, e3]
theorem of_day {n : Int} (h : inR n) : ofVal (86400 * n) 0 = .tuple #[.agg #[.int .i64 (Cv.dateY n), .int .i64 (Cv.dateM n), .int .i64 (Cv.dD n), .int .i64 ((n + 4) % 7), .int .i64 0, .int .i64 0], .int .i64 0] := by
  have h1 := h.1
  have h2 := h.2
  have e1 : (86400 * n + 60 * 0) / 86400 = n := by omega
  have e2 : (86400 * n + 60 * 0) % 86400 = 0 := by omega
  unfold ofVal
  rw [if_neg (by omega), if_neg (by omega), e1, e2, if_pos h]
  rfl
/-- The day behind a day. -/
theorem next_day {y m d : Int} (hv : Cv.val y m d) (hy : y ≤ 9998) : ∃ A B C, Cv.val A B C ∧ Cv.num A B C = Cv.num y m d + 1 ∧
    ((d < Cv.longB y m ∧ A = y ∧ B = m ∧ C = d + 1) ∨ (¬ d < Cv.longB y m ∧ m < 12 ∧ A = y ∧ B = m + 1 ∧ C = 1) ∨ (¬ d < Cv.longB y m ∧ ¬ m < 12 ∧ A = y + 1 ∧ B = 1 ∧ C = 1)) := by
  obtain ⟨r1, r2, r3, r4, r5, r6⟩ := Cv.val_range hv
  have hd := hv.2
  by_cases h1 : d < Cv.longB y m
  · exact ⟨y, m, d + 1, ⟨by omega, by omega⟩, by unfold Cv.num; omega, .inl ⟨h1, rfl, rfl, rfl⟩⟩
  · have hs := Cv.cum_step r1 r2 r3 r4
    by_cases h2 : m < 12
    · have hl := Cv.long_vals r1 r2 (by omega : 1 ≤ m + 1) (by omega)
      exact ⟨y, m + 1, 1, ⟨by omega, by omega⟩, by unfold Cv.num; omega, .inr (.inl ⟨h1, h2, rfl, rfl, rfl⟩)⟩
    · obtain rfl : m = 12 := by omega
      have hl := Cv.long_vals (by omega : 1 ≤ y + 1) (by omega : y + 1 ≤ 9999) (by omega : (1 : Int) ≤ 1) (by omega)
      have h13 := Cv.cum_13 r1 r2
      have hb := Cv.beg_step r1 r2
      have hc := Cv.cum_1 (y + 1)
      refine ⟨y + 1, 1, 1, ⟨by omega, by omega⟩, ?_, .inr (.inr ⟨h1, h2, rfl, rfl, rfl⟩)⟩
      unfold Cv.num
      rw [hc]
      simp only [show (12 : Int) + 1 = 13 by omega] at hs
      omega

set_option maxRecDepth 100000 in
set_option maxHeartbeats 2000000 in
theorem next_law (a b c : Int) (w : World) (hA : AH w) (ha : 0 ≤ a ∧ a ≤ 65535) (hb0 : 0 ≤ b ∧ b ≤ 255) (hc : 0 ≤ c ∧ c ≤ 255) : Calls Tryd.prog 6 #[.int .u16 a, .int .u8 b, .int .u8 c] w fun e w' => e = .returned (.bool true) ∧ Below w.heap.size w w' := by
  have A0 := Lib.hid hA
  have K0 := Lib.hid (Below.refl w.heap.size w)
  clear hA
  obtain ⟨y, hy⟩ : ∃ y, 1 + a % 9998 = y := ⟨_, rfl⟩
  obtain ⟨m, hm⟩ : ∃ m, 1 + b % 12 = m := ⟨_, rfl⟩
  obtain ⟨d, hd⟩ : ∃ d, 1 + c % 31 = d := ⟨_, rfl⟩
  have y1 : 1 ≤ y := by omega
  have y2 : y ≤ 9998 := by omega
  have m1 : 1 ≤ m := by omega
  have m2 : m ≤ 12 := by omega
  have d1 : 1 ≤ d := by omega
  have d2 : d ≤ 31 := by omega
  have hlv := Cv.long_vals y1 (by omega : y ≤ 9999) m1 m2
  obtain ⟨a0, a1⟩ := ha
  obtain ⟨b0, b1⟩ := hb0
  obtain ⟨c0, c1⟩ := hc
  obtain ⟨L, hL⟩ : ∃ L, Cv.longB y m = L := ⟨_, rfl⟩
  have L1 : 28 ≤ L := by omega
  have L2 : L ≤ 31 := by omega
  have HL := Lib.hid hL
  by_cases hdl : d ≤ L
  · have hv : Cv.val y m d := ⟨d1, by omega⟩
    have hnr := num_range hv
    have n1 := hnr.1
    have n2 := hnr.2
    have hdv : dayVal y m d = .tuple #[.int .i64 (Cv.num y m d), .int .i64 0] := by unfold dayVal; rw [if_pos hv, if_pos hv]
    obtain ⟨A, B, C, v2, hn, hcase⟩ := next_day hv y2
    have hdn := date_of_num v2
    have hir := num_range v2
    rw [hn] at hdn hir
    have n3 := hir.2
    have ho1 := of_day (n := Cv.num y m d) hnr
    have ho2 := of_day (n := Cv.num y m d + 1) hir
    rw [hL] at hcase
    have HDV := Lib.hid hdv
    have HDN := Lib.hid hdn
    have HO1 := Lib.hid ho1
    have HO2 := Lib.hid ho2
    have HC := Lib.hid hcase
    clear hdv hdn ho1 ho2 hcase hn v2 hv hnr hir hL hlv
    generalize Cv.num y m d = n at *
    generalize Cv.dateY n = P0 at *
    generalize Cv.dateM n = P1 at *
    generalize Cv.dD n = P2 at *
    generalize Cv.dateY (n + 1) = Q0 at *
    generalize Cv.dateM (n + 1) = Q1 at *
    generalize Cv.dD (n + 1) = Q2 at *
    go_enter Tryd.func6, Tryd.ntmps6
    go_wp2_with fail
    refine (long_any y m _ A0.out).mono ?_
    rw [HL.out]
    rintro e w1 ⟨rfl, hb⟩
    have A1 := Lib.hid (A0.out.below hb)
    have K1 := Lib.hid (below_then K0.out K0.out.size hb)
    clear hb A0 K0
    go_wp2_with fail
    refine (days_any y m d _ A1.out).mono ?_
    rw [HDV.out]
    rintro e w2 ⟨rfl, hb⟩
    have A2 := Lib.hid (A1.out.below hb)
    have K2 := Lib.hid (below_then K1.out K1.out.size hb)
    clear hb A1 K1
    go_wp2_with fail
    refine (date_any (n + 1) _ A2.out).mono ?_
    rw [HDN.out]
    rintro e w3 ⟨rfl, hb⟩
    have A3 := Lib.hid (A2.out.below hb)
    have K3 := Lib.hid (below_then K2.out K2.out.size hb)
    clear hb A2 K2
    go_wp2_with fail
    refine (of_any (86400 * n) 0 _ A3.out).mono ?_
    rw [HO1.out]
    rintro e w4 ⟨rfl, hb⟩
    have A4 := Lib.hid (A3.out.below hb)
    have K4 := Lib.hid (below_then K3.out K3.out.size hb)
    clear hb A3 K3
    have C5 := Lib.hid (Blk.new w4 34 #[.int .i64 P0, .int .i64 P1, .int .i64 P2, .int .i64 ((n + 4) % 7), .int .i64 0, .int .i64 0])
    have A5 := Lib.hid (A4.out.below ((Below.refl _ w4).alloc (Nat.le_refl _) (.cells #[.int .i64 P0, .int .i64 P1, .int .i64 P2, .int .i64 ((n + 4) % 7), .int .i64 0, .int .i64 0] 34)))
    have K5 := Lib.hid (K4.out.alloc K4.out.size (.cells #[.int .i64 P0, .int .i64 P1, .int .i64 P2, .int .i64 ((n + 4) % 7), .int .i64 0, .int .i64 0] 34))
    have l5 : w4.heap.size < (w4.alloc (.cells #[.int .i64 P0, .int .i64 P1, .int .i64 P2, .int .i64 ((n + 4) % 7), .int .i64 0, .int .i64 0] 34)).heap.size := by simp
    clear A4 K4
    go_wp2_with fail
    refine (of_any (86400 * (n + 1)) 0 _ A5.out).mono ?_
    rw [HO2.out]
    rintro e w6 ⟨rfl, hb⟩
    have C6 := Lib.hid (C5.out.below hb l5)
    have A6 := Lib.hid (A5.out.below hb)
    have K6 := Lib.hid (below_then K5.out K5.out.size hb)
    have l6 : w4.heap.size < w6.heap.size := Nat.lt_of_lt_of_le l5 hb.size
    clear hb A5 K5 C5 l5
    have C7 := Lib.hid (C6.out.alloc (.cells #[.int .i64 Q0, .int .i64 Q1, .int .i64 Q2, .int .i64 ((n + 1 + 4) % 7), .int .i64 0, .int .i64 0] 34))
    have E7 := Lib.hid (Blk.new w6 34 #[.int .i64 Q0, .int .i64 Q1, .int .i64 Q2, .int .i64 ((n + 1 + 4) % 7), .int .i64 0, .int .i64 0])
    have A7 := Lib.hid (A6.out.below ((Below.refl _ w6).alloc (Nat.le_refl _) (.cells #[.int .i64 Q0, .int .i64 Q1, .int .i64 Q2, .int .i64 ((n + 1 + 4) % 7), .int .i64 0, .int .i64 0] 34)))
    have K7 := Lib.hid (K6.out.alloc K6.out.size (.cells #[.int .i64 Q0, .int .i64 Q1, .int .i64 Q2, .int .i64 ((n + 1 + 4) % 7), .int .i64 0, .int .i64 0] 34))
    clear A6 K6
    have hwk : ((n + 4) % 7 + 1) % 7 = (n + 1 + 4) % 7 := by omega
    have hwk0 : 0 ≤ (n + 4) % 7 + 1 := by omega
    have hwk1 : (n + 4) % 7 + 1 ≤ 7 := by omega
    have hwk2 : 0 ≤ (n + 4) % 7 := by omega
    have q3 := C6.out.cell 3
    simp only [List.getElem?_toArray, List.getElem?_cons_zero, List.getElem?_cons_succ] at q3
    go_wp2_with fail
    refine (long_any y m _ A7.out).mono ?_
    rw [HL.out]
    rintro e w8 ⟨rfl, hb⟩
    have A8 := Lib.hid (A7.out.below hb)
    have K8 := Lib.hid (below_then K7.out K7.out.size hb)
    clear hb A7 K7 C7 E7 C6 q3
    rcases HC.out with ⟨i1, rfl, rfl, rfl⟩ | ⟨i1, i2, rfl, rfl, rfl⟩ | ⟨i1, i2, rfl, rfl, rfl⟩
    · skip
      go_wp2_with fail
      refine (awake_any _ A8.out).mono ?_
      rintro e w9 ⟨rfl, hb⟩
      have K9 := Lib.hid (below_then K8.out K8.out.size hb)
      clear hb
      go_wp2
      go_ret
      exact ⟨rfl, K9.out⟩
    · skip
      go_wp2_with fail
      refine (awake_any _ A8.out).mono ?_
      rintro e w9 ⟨rfl, hb⟩
      have K9 := Lib.hid (below_then K8.out K8.out.size hb)
      clear hb
      go_wp2
      go_ret
      exact ⟨rfl, K9.out⟩
    · skip
      go_wp2_with fail
      refine (awake_any _ A8.out).mono ?_
      rintro e w9 ⟨rfl, hb⟩
      have K9 := Lib.hid (below_then K8.out K8.out.size hb)
      clear hb
      go_wp2
      go_ret
      exact ⟨rfl, K9.out⟩
  · go_enter Tryd.func6, Tryd.ntmps6
    have hdl' : L < d := by omega
    clear hL hlv
    go_wp2_with fail
    refine (long_any y m _ A0.out).mono ?_
    rw [HL.out]
    rintro e w1 ⟨rfl, hb⟩
    have A1 := Lib.hid (A0.out.below hb)
    have K1 := Lib.hid (below_then K0.out K0.out.size hb)
    clear hb A0 K0
    go_wp2_with fail
    refine (long_any y m _ A1.out).mono ?_
    rw [HL.out]
    rintro e w2 ⟨rfl, hb⟩
    have A8 := Lib.hid (A1.out.below hb)
    have K8 := Lib.hid (below_then K1.out K1.out.size hb)
    clear hb A1 K1
    go_wp2_with fail
    refine (awake_any _ A8.out).mono ?_
    rintro e w9 ⟨rfl, hb⟩
    have K9 := Lib.hid (below_then K8.out K8.out.size hb)
    clear hb
    go_wp2
    go_ret
    exact ⟨rfl, K9.out⟩

set_option maxRecDepth 100000 in
theorem civilNext_lifted (os : Os) (started : os.Started) (H : Type) (enc : TypeId × Value → H) :
    ReturnsInHanded {} Tryd.checked os 6 .any (fun w args => (Rows.civilNextSpec.pre enc Tryd.prog Tryd.f6 [] false w args ∧ laidMetH Tryd.prog laidA w) ∧ sizedMet enc Tryd.prog Tryd.f6 (OpenSpec.ofChange Rows.civilNextSpec) false w args)
      (Rows.civilNextSpec.post enc Tryd.prog Tryd.f6 false true false false) := by
  refine returnsInHanded_of_change_and (C := Tryd.checked) (X := fun w _ => laidMetH Tryd.prog laidA w) (fun _ _ _ hh h => h.of_heap hh) tOwn started (by kernel_rfl) Tryd.func6
    (ChangeSpec.witness_shaped (enc := enc) (C := Tryd.checked) (os := os) (X := fun w _ => laidMetH Tryd.prog laidA w) false (World.doorLaid Tryd.prog 400 os) #[.int .u16 0, .int .u8 0, .int .u8 0] 8 rfl (World.shaped_of_RefB (by kernel_rfl) (by kernel_rfl)) (by kernel_rfl) (by kernel_rfl) (by kernel_rfl) (door_met os _)) ?_
  intro W base args ds gs before hval0 hW _ _ hL _
  have hval : ∀ (j : Nat) t v, Tryd.f6.params[j]? = some t → args[j]? = some v → Value.okWide Tryd.prog W .any base t v := hval0
  have hW' := hW
  obtain ⟨p, q, hA0, hV, rfl, hfz, hnd⟩ := hW
  have hA : DataW.TrodAll enc Tryd.prog W 0 (fun _ => true) true Tryd.f6.params.toList args.toList ds p := hA0
  rw [Tryd.params6] at hA hval
  obtain ⟨v0, vs0, d0, ds0, p0, q0, hargs, rfl, rfl, h0, r0⟩ := trodAll_cons hA
  obtain ⟨v1, vs1, d1, ds1, p1, q1, rfl, rfl, rfl, h1, r1⟩ := trodAll_cons r0
  obtain ⟨v2, vs2, d2, ds2, p2, q2, rfl, rfl, rfl, h2, r2⟩ := trodAll_cons r1
  obtain ⟨rfl, rfl, rfl⟩ := trodAll_nil r2
  obtain rfl : args = #[v0, v1, v2] := by cases args; simp_all
  obtain ⟨a, rfl, rfl, rfl, wa⟩ := open_int Tryd.underlying43 (hval 0 43 v0 rfl rfl) h0
  obtain ⟨b, rfl, rfl, rfl, wb⟩ := open_int Tryd.underlying5 (hval 1 5 v1 rfl rfl) h1
  obtain ⟨c, rfl, rfl, rfl, wc⟩ := open_int Tryd.underlying5 (hval 2 5 v2 rfl rfl) h2
  refine (next_law a b c W (ah_of_laid hL) (bounds_u16 wa) (bounds_u8 wb) (bounds_u8 wc)).mono fun e W' ⟨he, hb⟩ => ?_
  subst he
  exact ⟨_, rfl, law_post tLaid (by decide +kernel) hW' rfl (by kernel_rfl) Tryd.underlying4 rfl hb⟩

theorem civilNext_row : Rows.CivilNextSaid :=
  OpenClaim.holds_of_wide 6 Tryd.f6 rfl rfl rfl rfl rfl rfl rfl ⟨rfl, rfl, rfl, rfl, rfl⟩ rfl rfl rfl rfl rfl (by kernel_rfl) Tryd.func6 (by kernel_rfl)
    (of_decide_eq_true (by kernel_rfl)) (by unfold Func.isWrapper; rw [if_neg (of_decide_eq_false (by kernel_rfl))]; exact ⟨rfl, rfl⟩)
    (fun os started H enc _ => civilNext_lifted os started H enc)

/-- The statement: the tied card. -/
theorem civilNext_holds : Rows.CivilNextCardSaid :=
  Claim7.holds_tied_plain_at .later [] [.data] true (true, "7a54627c4d33d3471ccb311b10eaade565bb5abb21a7a417936f7409417c04b8") false
    civilNext_row (fun _ h => by cases h) (by kernel_rfl) (fun _ h => by cases h) civilNext_row_tie rfl ⟨rfl, rfl⟩ (by kernel_rfl) rfl
    (fun f fn hf hfn => by
      obtain rfl : f = 6 := Option.some.inj ((show Tryd.prog.funcNamed "watchfire/watchfirelaw25.CivilNext" = some 6 by kernel_rfl).symm.trans hf) |>.symm
      obtain rfl : fn = Tryd.f6 := (Option.some.inj (Tryd.func6.symm.trans hfn)).symm
      exact ⟨by kernel_rfl, fun j t ht => by
        rw [Tryd.params6] at ht
        have hm : t ∈ [43, 5, 5] := by simpa using Array.mem_of_getElem? ht
        have hall : ([43, 5, 5].all fun u => !Tryd.prog.wantsStandIn u) = true := by kernel_rfl
        exact (show Tryd.prog.wantsStandIn t = false by simpa using List.all_eq_true.1 hall t hm)⟩)
    (by kernel_rfl)
#print axioms civilNext_holds

end Go.Proofs.YtkmkeimofhpkeaaDoor
