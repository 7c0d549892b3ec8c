/- The statement CivilDates: any number is the day that the document says, or none. Conditions: the table is as the program's text lays it (tied on the card). -/
import Derived.Test.YtkmkeimofhpkeaaDoorOpen
import Derived.Test.YtkmkeimofhpkeaaDoorCards
import Derived.Test.YtkmkeimofhpkeaaDoorTie
import Derived.SevenTiedAt
namespace Go.Proofs.YtkmkeimofhpkeaaDoor
set_option linter.unusedVariables false
set_option linter.unusedSimpArgs false
open Go.ChangeShapes Go.WideShapes Go.ChangeAt Go.RowKit Go.Joins Go.Deep

set_option maxRecDepth 100000 in
set_option maxHeartbeats 2000000 in
theorem dates_law (n : Int) (w : World) (hA : AH w) : Calls Tryd.prog 4 #[.int .i64 n] w fun e w' => e = .returned (.bool true) ∧ Below w.heap.size w w' := by
  have A0 := Lib.hid hA
  have K0 := Lib.hid (Below.refl w.heap.size w)
  clear hA
  obtain ⟨x, y, z, hv⟩ : ∃ x y z, dateVal n = .tuple #[.int .i64 x, .int .i64 y, .int .i64 z] := by
    unfold dateVal; split <;> exact ⟨_, _, _, rfl⟩
  have HV := Lib.hid hv
  clear hv
  go_enter Tryd.func4, Tryd.ntmps4
  go_wp2_with fail
  refine (date_any n _ A0.out).mono ?_
  rw [HV.out]
  rintro e w1 ⟨rfl, hb⟩
  have A1 := Lib.hid (A0.out.below hb)
  have K1 := Lib.hid (below_then K0.out K0.out.size hb)
  clear hb A0 K0
  go_wp2_with fail
  refine (rdate_any n _).mono ?_
  rw [HV.out]
  rintro e w2 ⟨rfl, hb⟩
  have A2 := Lib.hid (A1.out.below hb)
  have K2 := Lib.hid (below_then K1.out K1.out.size hb)
  clear hb A1 K1
  go_wp2_with fail
  refine (awake_any _ A2.out).mono ?_
  rintro e w3 ⟨rfl, hb⟩
  have A3 := Lib.hid (A2.out.below hb)
  have K3 := Lib.hid (below_then K2.out K2.out.size hb)
  clear hb A2 K2
  go_wp2
  go_ret
  exact ⟨rfl, K3.out⟩

set_option maxRecDepth 100000 in
theorem civilDates_lifted (os : Os) (started : os.Started) (H : Type) (enc : TypeId × Value → H) :
    ReturnsInHanded {} Tryd.checked os 4 .any (fun w args => (Rows.civilDatesSpec.pre enc Tryd.prog Tryd.f4 [] false w args ∧ laidMetH Tryd.prog laidA w) ∧ sizedMet enc Tryd.prog Tryd.f4 (OpenSpec.ofChange Rows.civilDatesSpec) false w args)
      (Rows.civilDatesSpec.post enc Tryd.prog Tryd.f4 false true false false) := by
  refine returnsInHanded_of_change_and (C := Tryd.checked) (X := fun w _ => laidMetH Tryd.prog laidA w) (fun _ _ _ hh h => h.of_heap hh) tOwn started (by kernel_rfl) Tryd.func4
    (ChangeSpec.witness_shaped (enc := enc) (C := Tryd.checked) (os := os) (X := fun w _ => laidMetH Tryd.prog laidA w) false (World.doorLaid Tryd.prog 400 os) #[.int .i64 0] 8 rfl (World.shaped_of_RefB (by kernel_rfl) (by kernel_rfl)) (by kernel_rfl) (by kernel_rfl) (by kernel_rfl) (door_met os _)) ?_
  intro W base args ds gs before hval0 hW _ _ hL _
  have hval : ∀ (j : Nat) t v, Tryd.f4.params[j]? = some t → args[j]? = some v → Value.okWide Tryd.prog W .any base t v := hval0
  have hW' := hW
  obtain ⟨p, q, hA0, hV, rfl, hfz, hnd⟩ := hW
  have hA : DataW.TrodAll enc Tryd.prog W 0 (fun _ => true) true Tryd.f4.params.toList args.toList ds p := hA0
  rw [Tryd.params4] at hA hval
  obtain ⟨v0, vs0, d0, ds0, p0, q0, hargs, rfl, rfl, h0, r0⟩ := trodAll_cons hA
  obtain ⟨rfl, rfl, rfl⟩ := trodAll_nil r0
  obtain rfl : args = #[v0] := by cases args; simp_all
  obtain ⟨n, rfl, rfl, rfl, wn⟩ := open_int Tryd.underlying3 (hval 0 3 v0 rfl rfl) h0
  refine (dates_law n W (ah_of_laid hL)).mono fun e W' ⟨he, hb⟩ => ?_
  subst he
  exact ⟨_, rfl, law_post tLaid (by decide +kernel) hW' rfl (by kernel_rfl) Tryd.underlying4 rfl hb⟩

theorem civilDates_row : Rows.CivilDatesSaid :=
  OpenClaim.holds_of_wide 4 Tryd.f4 rfl rfl rfl rfl rfl rfl rfl ⟨rfl, rfl, rfl, rfl, rfl⟩ rfl rfl rfl rfl rfl (by kernel_rfl) Tryd.func4 (by kernel_rfl)
    (of_decide_eq_true (by kernel_rfl)) (by unfold Func.isWrapper; rw [if_neg (of_decide_eq_false (by kernel_rfl))]; exact ⟨rfl, rfl⟩)
    (fun os started H enc _ => civilDates_lifted os started H enc)

/-- The statement: the tied card. -/
theorem civilDates_holds : Rows.CivilDatesCardSaid :=
  Claim7.holds_tied_plain_at .later [] [.data] true (true, "7a54627c4d33d3471ccb311b10eaade565bb5abb21a7a417936f7409417c04b8") false
    civilDates_row (fun _ h => by cases h) (by kernel_rfl) (fun _ h => by cases h) civilDates_row_tie rfl ⟨rfl, rfl⟩ (by kernel_rfl) rfl
    (fun f fn hf hfn => by
      obtain rfl : f = 4 := Option.some.inj ((show Tryd.prog.funcNamed "watchfire/watchfirelaw25.CivilDates" = some 4 by kernel_rfl).symm.trans hf) |>.symm
      obtain rfl : fn = Tryd.f4 := (Option.some.inj (Tryd.func4.symm.trans hfn)).symm
      exact ⟨by kernel_rfl, fun j t ht => by
        rw [Tryd.params4] at ht
        have hm : t ∈ [3] := by simpa using Array.mem_of_getElem? ht
        have hall : ([3].all fun u => !Tryd.prog.wantsStandIn u) = true := by kernel_rfl
        exact (show Tryd.prog.wantsStandIn t = false by simpa using List.all_eq_true.1 hall t hm)⟩)
    (by kernel_rfl)
#print axioms civilDates_holds

end Go.Proofs.YtkmkeimofhpkeaaDoor
