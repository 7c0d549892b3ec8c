/- The statement CivilCycles: four hundred years have 146097 days, and the same leap years again. Conditions: the table is as the program's text lays it (tied on the card). -/
import Derived.Test.YtkmkeimofhpkeaaDoorOpen
import Derived.Test.YtkmkeimofhpkeaaDoorCards
import Derived.Test.YtkmkeimofhpkeaaDoorTie
import Derived.SevenTiedAt
namespace Go.Proofs.YtkmkeimofhpkeaaDoor
set_option linter.unusedVariables false
set_option linter.unusedSimpArgs false
open Go.ChangeShapes Go.WideShapes Go.ChangeAt Go.RowKit Go.Joins Go.Deep

theorem leap_400 {y : Int} (h1 : 1 ≤ y) (h2 : y + 400 ≤ 9999) : Cv.leapB (y + 400) = Cv.leapB y := by
  rw [Bool.eq_iff_iff, Cv.leap_iff, Cv.leap_iff]; omega
theorem beg_400 (y : Int) : Cv.beg (y + 400) = Cv.beg y + 146097 := by unfold Cv.beg; omega
theorem cum_400 {y m : Int} (h1 : 1 ≤ y) (h2 : y + 400 ≤ 9999) : Cv.cum (y + 400) m = Cv.cum y m := by unfold Cv.cum; rw [leap_400 h1 h2]
theorem long_400 {y m : Int} (h1 : 1 ≤ y) (h2 : y + 400 ≤ 9999) : Cv.longB (y + 400) m = Cv.longB y m := by
  by_cases h : 1 ≤ m ∧ m ≤ 12
  · unfold Cv.longB; rw [if_pos (by omega), if_pos (by omega), cum_400 h1 h2, cum_400 h1 h2]
  · unfold Cv.longB; rw [if_neg (by omega), if_neg (by omega)]

set_option maxRecDepth 100000 in
set_option maxHeartbeats 2000000 in
theorem cycles_law (a b c : Int) (w : World) (hA : AH w) (ha : 0 ≤ a ∧ a ≤ 65535) (hb0 : 0 ≤ b ∧ b ≤ 255) (hc : 0 ≤ c ∧ c ≤ 255) : Calls Tryd.prog 7 #[.int .u16 a, .int .u8 b, .int .u8 c] w fun e w' => e = .returned (.bool true) ∧ Below w.heap.size w w' := by
  have A0 := Lib.hid hA
  have K0 := Lib.hid (Below.refl w.heap.size w)
  clear hA
  obtain ⟨y, hy⟩ : ∃ y, 1 + a % 9599 = y := ⟨_, rfl⟩
  obtain ⟨m, hm⟩ : ∃ m, 1 + b % 12 = m := ⟨_, rfl⟩
  obtain ⟨d, hd⟩ : ∃ d, 1 + c % 28 = d := ⟨_, rfl⟩
  have y1 : 1 ≤ y := by omega
  have y2 : y + 400 ≤ 9999 := by omega
  have m1 : 1 ≤ m := by omega
  have m2 : m ≤ 12 := by omega
  have hlv := Cv.long_vals y1 (by omega : y ≤ 9999) m1 m2
  have hl4 := long_400 (m := m) y1 y2
  have v1 : Cv.val y m d := ⟨by omega, by omega⟩
  have v2 : Cv.val (y + 400) m d := ⟨by omega, by omega⟩
  have hnum : Cv.num (y + 400) m d = Cv.num y m d + 146097 := by unfold Cv.num; rw [beg_400, cum_400 y1 y2]; omega
  have hnr := num_range v1
  have n1 := hnr.1
  have n2 := hnr.2
  have hv1 : dayVal y m d = .tuple #[.int .i64 (Cv.num y m d), .int .i64 0] := by unfold dayVal; rw [if_pos v1, if_pos v1]
  have hv2 : dayVal (y + 400) m d = .tuple #[.int .i64 (Cv.num y m d + 146097), .int .i64 0] := by unfold dayVal; rw [if_pos v2, if_pos v2, hnum]
  have hlp := leap_400 y1 y2
  have HV1 := Lib.hid hv1
  have HV2 := Lib.hid hv2
  have HL4 := Lib.hid hl4
  have HLP := Lib.hid hlp
  clear hv1 hv2 hl4 hlp hnum v1 v2 hlv hnr
  generalize Cv.num y m d = n at *
  obtain ⟨a0, a1⟩ := ha
  obtain ⟨b0, b1⟩ := hb0
  obtain ⟨c0, c1⟩ := hc
  go_enter Tryd.func7, Tryd.ntmps7
  go_wp2_with fail
  refine (days_any y m d _ A0.out).mono ?_
  rw [HV1.out]
  rintro e w1 ⟨rfl, hb⟩
  have A1 := Lib.hid (A0.out.below hb)
  have K1 := Lib.hid (below_then K0.out K0.out.size hb)
  clear hb A0 K0
  go_wp2_with fail
  refine (days_any (y + 400) m d _ A1.out).mono ?_
  rw [HV2.out]
  rintro e w2 ⟨rfl, hb⟩
  have A2 := Lib.hid (A1.out.below hb)
  have K2 := Lib.hid (below_then K1.out K1.out.size hb)
  clear hb A1 K1
  go_wp2_with fail
  refine (leap_any y _).mono ?_
  rintro e w3 ⟨rfl, hb⟩
  have A3 := Lib.hid (A2.out.below hb)
  have K3 := Lib.hid (below_then K2.out K2.out.size hb)
  clear hb A2 K2
  go_wp2_with fail
  refine (leap_any (y + 400) _).mono ?_
  rw [HLP.out]
  rintro e w4 ⟨rfl, hb⟩
  have A4 := Lib.hid (A3.out.below hb)
  have K4 := Lib.hid (below_then K3.out K3.out.size hb)
  clear hb A3 K3
  go_wp2_with fail
  refine (long_any y m _ A4.out).mono ?_
  rintro e w5 ⟨rfl, hb⟩
  have A5 := Lib.hid (A4.out.below hb)
  have K5 := Lib.hid (below_then K4.out K4.out.size hb)
  clear hb A4 K4
  go_wp2_with fail
  refine (long_any (y + 400) m _ A5.out).mono ?_
  rw [HL4.out]
  rintro e w6 ⟨rfl, hb⟩
  have A6 := Lib.hid (A5.out.below hb)
  have K6 := Lib.hid (below_then K5.out K5.out.size hb)
  clear hb A5 K5
  go_wp2_with fail
  refine (awake_any _ A6.out).mono ?_
  rintro e w7 ⟨rfl, hb⟩
  have A7 := Lib.hid (A6.out.below hb)
  have K7 := Lib.hid (below_then K6.out K6.out.size hb)
  clear hb A6 K6
  go_wp2
  go_ret
  exact ⟨rfl, K7.out⟩

set_option maxRecDepth 100000 in
theorem civilCycles_lifted (os : Os) (started : os.Started) (H : Type) (enc : TypeId × Value → H) :
    ReturnsInHanded {} Tryd.checked os 7 .any (fun w args => (Rows.civilCyclesSpec.pre enc Tryd.prog Tryd.f7 [] false w args ∧ laidMetH Tryd.prog laidA w) ∧ sizedMet enc Tryd.prog Tryd.f7 (OpenSpec.ofChange Rows.civilCyclesSpec) false w args)
      (Rows.civilCyclesSpec.post enc Tryd.prog Tryd.f7 false true false false) := by
  refine returnsInHanded_of_change_and (C := Tryd.checked) (X := fun w _ => laidMetH Tryd.prog laidA w) (fun _ _ _ hh h => h.of_heap hh) tOwn started (by kernel_rfl) Tryd.func7
    (ChangeSpec.witness_shaped (enc := enc) (C := Tryd.checked) (os := os) (X := fun w _ => laidMetH Tryd.prog laidA w) false (World.doorLaid Tryd.prog 400 os) #[.int .u16 0, .int .u8 0, .int .u8 0] 8 rfl (World.shaped_of_RefB (by kernel_rfl) (by kernel_rfl)) (by kernel_rfl) (by kernel_rfl) (by kernel_rfl) (door_met os _)) ?_
  intro W base args ds gs before hval0 hW _ _ hL _
  have hval : ∀ (j : Nat) t v, Tryd.f7.params[j]? = some t → args[j]? = some v → Value.okWide Tryd.prog W .any base t v := hval0
  have hW' := hW
  obtain ⟨p, q, hA0, hV, rfl, hfz, hnd⟩ := hW
  have hA : DataW.TrodAll enc Tryd.prog W 0 (fun _ => true) true Tryd.f7.params.toList args.toList ds p := hA0
  rw [Tryd.params7] at hA hval
  obtain ⟨v0, vs0, d0, ds0, p0, q0, hargs, rfl, rfl, h0, r0⟩ := trodAll_cons hA
  obtain ⟨v1, vs1, d1, ds1, p1, q1, rfl, rfl, rfl, h1, r1⟩ := trodAll_cons r0
  obtain ⟨v2, vs2, d2, ds2, p2, q2, rfl, rfl, rfl, h2, r2⟩ := trodAll_cons r1
  obtain ⟨rfl, rfl, rfl⟩ := trodAll_nil r2
  obtain rfl : args = #[v0, v1, v2] := by cases args; simp_all
  obtain ⟨a, rfl, rfl, rfl, wa⟩ := open_int Tryd.underlying43 (hval 0 43 v0 rfl rfl) h0
  obtain ⟨b, rfl, rfl, rfl, wb⟩ := open_int Tryd.underlying5 (hval 1 5 v1 rfl rfl) h1
  obtain ⟨c, rfl, rfl, rfl, wc⟩ := open_int Tryd.underlying5 (hval 2 5 v2 rfl rfl) h2
  refine (cycles_law a b c W (ah_of_laid hL) (bounds_u16 wa) (bounds_u8 wb) (bounds_u8 wc)).mono fun e W' ⟨he, hb⟩ => ?_
  subst he
  exact ⟨_, rfl, law_post tLaid (by decide +kernel) hW' rfl (by kernel_rfl) Tryd.underlying4 rfl hb⟩

theorem civilCycles_row : Rows.CivilCyclesSaid :=
  OpenClaim.holds_of_wide 7 Tryd.f7 rfl rfl rfl rfl rfl rfl rfl ⟨rfl, rfl, rfl, rfl, rfl⟩ rfl rfl rfl rfl rfl (by kernel_rfl) Tryd.func7 (by kernel_rfl)
    (of_decide_eq_true (by kernel_rfl)) (by unfold Func.isWrapper; rw [if_neg (of_decide_eq_false (by kernel_rfl))]; exact ⟨rfl, rfl⟩)
    (fun os started H enc _ => civilCycles_lifted os started H enc)

/-- The statement: the tied card. -/
theorem civilCycles_holds : Rows.CivilCyclesCardSaid :=
  Claim7.holds_tied_plain_at .later [] [.data] true (true, "7a54627c4d33d3471ccb311b10eaade565bb5abb21a7a417936f7409417c04b8") false
    civilCycles_row (fun _ h => by cases h) (by kernel_rfl) (fun _ h => by cases h) civilCycles_row_tie rfl ⟨rfl, rfl⟩ (by kernel_rfl) rfl
    (fun f fn hf hfn => by
      obtain rfl : f = 7 := Option.some.inj ((show Tryd.prog.funcNamed "watchfire/watchfirelaw25.CivilCycles" = some 7 by kernel_rfl).symm.trans hf) |>.symm
      obtain rfl : fn = Tryd.f7 := (Option.some.inj (Tryd.func7.symm.trans hfn)).symm
      exact ⟨by kernel_rfl, fun j t ht => by
        rw [Tryd.params7] at ht
        have hm : t ∈ [43, 5, 5] := by simpa using Array.mem_of_getElem? ht
        have hall : ([43, 5, 5].all fun u => !Tryd.prog.wantsStandIn u) = true := by kernel_rfl
        exact (show Tryd.prog.wantsStandIn t = false by simpa using List.all_eq_true.1 hall t hm)⟩)
    (by kernel_rfl)
#print axioms civilCycles_holds

end Go.Proofs.YtkmkeimofhpkeaaDoor
