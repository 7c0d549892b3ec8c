/- The statement CivilTimes: any second is called as the document says, and any time is the second that it says, or none. Conditions: the table is as the program's text lays it (tied on the card). -/
import Derived.Test.YtkmkeimofhpkeaaDoorTime
import Derived.Deep.DeepCutAuto
import Derived.Test.YtkmkeimofhpkeaaDoorCards
import Derived.Test.YtkmkeimofhpkeaaDoorTie
import Derived.SevenTiedAt
namespace Go.Proofs.YtkmkeimofhpkeaaDoor
set_option linter.unusedVariables false
set_option linter.unusedSimpArgs false
open Go.ChangeShapes Go.WideShapes Go.ChangeAt Go.RowKit Go.Joins Go.Deep

set_option maxRecDepth 100000 in
set_option maxHeartbeats 2000000 in
theorem times_law (s a y m d k mi sec : Int) (w : World) (hA : AH w) : Calls Tryd.prog 5 #[.int .i64 s, .int .i64 a, tagg y m d k mi sec] w fun e w' => e = .returned (.bool true) ∧ Below w.heap.size w w' := by
  unfold tagg
  obtain ⟨x0, x1, x2, x3, x4, x5, e1, hv⟩ : ∃ x0 x1 x2 x3 x4 x5 e1, ofVal s a = .tuple #[.agg #[.int .i64 x0, .int .i64 x1, .int .i64 x2, .int .i64 x3, .int .i64 x4, .int .i64 x5], .int .i64 e1] := by
    unfold ofVal tagg; split
    · exact ⟨_, _, _, _, _, _, _, rfl⟩
    · split
      · exact ⟨_, _, _, _, _, _, _, rfl⟩
      · split <;> exact ⟨_, _, _, _, _, _, _, rfl⟩
  obtain ⟨n1, e2, hv2⟩ : ∃ n1 e2, secVal y m d mi sec a = .tuple #[.int .i64 n1, .int .i64 e2] := by
    unfold secVal; split
    · exact ⟨_, _, rfl⟩
    · split <;> exact ⟨_, _, rfl⟩
  have HV := Lib.hid hv
  have HV2 := Lib.hid hv2
  clear hv hv2
  have hB := Blk.new w 34 #[.int .i64 y, .int .i64 m, .int .i64 d, .int .i64 k, .int .i64 mi, .int .i64 sec]
  have hK : Below w.heap.size w (w.alloc (.cells #[.int .i64 y, .int .i64 m, .int .i64 d, .int .i64 k, .int .i64 mi, .int .i64 sec] 34)) := (Below.refl _ _).alloc (Nat.le_refl _) _
  have hA1 := hA.below hK
  have hl : w.heap.size < (w.alloc (.cells #[.int .i64 y, .int .i64 m, .int .i64 d, .int .i64 k, .int .i64 mi, .int .i64 sec] 34)).heap.size := by simp
  go_enter Tryd.func5, Tryd.ntmps5
  go_upto_region 1 with fail
  generalize w.alloc (.cells #[.int .i64 y, .int .i64 m, .int .i64 d, .int .i64 k, .int .i64 mi, .int .i64 sec] 34) = W at *
  have B := Lib.hid hB
  have K := Lib.hid hK
  have AA := Lib.hid hA1
  clear hA hA1 hB hK
  go_wp2_with fail
  refine (of_any s a _ AA.out).mono ?_
  rw [HV.out]
  rintro e w1 ⟨rfl, hb⟩
  have B1 := Lib.hid (B.out.below hb hl)
  have K1 := Lib.hid (below_then K.out K.out.size hb)
  have A1 := Lib.hid (AA.out.below hb)
  have l1 : w.heap.size < w1.heap.size := Nat.lt_of_lt_of_le hl hb.size
  clear hb B K AA
  have C1 := Lib.hid (Blk.new w1 34 #[.int .i64 x0, .int .i64 x1, .int .i64 x2, .int .i64 x3, .int .i64 x4, .int .i64 x5])
  have D1 := Lib.hid (B1.out.alloc (.cells #[.int .i64 x0, .int .i64 x1, .int .i64 x2, .int .i64 x3, .int .i64 x4, .int .i64 x5] 34))
  have G1 := Lib.hid (K1.out.alloc K1.out.size (.cells #[.int .i64 x0, .int .i64 x1, .int .i64 x2, .int .i64 x3, .int .i64 x4, .int .i64 x5] 34))
  have H1 := Lib.hid (A1.out.below ((Below.refl _ w1).alloc (Nat.le_refl _) (.cells #[.int .i64 x0, .int .i64 x1, .int .i64 x2, .int .i64 x3, .int .i64 x4, .int .i64 x5] 34)))
  have m1 : w1.heap.size < (w1.alloc (.cells #[.int .i64 x0, .int .i64 x1, .int .i64 x2, .int .i64 x3, .int .i64 x4, .int .i64 x5] 34)).heap.size := by simp
  go_wp2_with fail
  refine (rof_any s a _).mono ?_
  rw [HV.out]
  rintro e w2 ⟨rfl, hb⟩
  have C2 := Lib.hid (C1.out.below hb m1)
  have D2 := Lib.hid (D1.out.below hb (by omega))
  have G2 := Lib.hid (below_then G1.out G1.out.size hb)
  have H2 := Lib.hid (H1.out.below hb)
  have l2 : w1.heap.size < w2.heap.size := Nat.lt_of_lt_of_le m1 hb.size
  have l2' : w.heap.size < w2.heap.size := by omega
  clear hb C1 D1 G1 H1 m1 B1 K1 A1
  have E3 := Lib.hid (Blk.new w2 37 #[.int .i64 x0, .int .i64 x1, .int .i64 x2, .int .i64 x3, .int .i64 x4, .int .i64 x5])
  have C3 := Lib.hid (C2.out.alloc (.cells #[.int .i64 x0, .int .i64 x1, .int .i64 x2, .int .i64 x3, .int .i64 x4, .int .i64 x5] 37))
  have D3 := Lib.hid (D2.out.alloc (.cells #[.int .i64 x0, .int .i64 x1, .int .i64 x2, .int .i64 x3, .int .i64 x4, .int .i64 x5] 37))
  have G3 := Lib.hid (G2.out.alloc G2.out.size (.cells #[.int .i64 x0, .int .i64 x1, .int .i64 x2, .int .i64 x3, .int .i64 x4, .int .i64 x5] 37))
  have H3 := Lib.hid (H2.out.below ((Below.refl _ w2).alloc (Nat.le_refl _) (.cells #[.int .i64 x0, .int .i64 x1, .int .i64 x2, .int .i64 x3, .int .i64 x4, .int .i64 x5] 37)))
  have m2 : w2.heap.size < (w2.alloc (.cells #[.int .i64 x0, .int .i64 x1, .int .i64 x2, .int .i64 x3, .int .i64 x4, .int .i64 x5] 37)).heap.size := by simp
  have q0 := D2.out.cell 0
  have q1 := D2.out.cell 1
  have q2 := D2.out.cell 2
  have q3 := D2.out.cell 3
  have q4 := D2.out.cell 4
  have q5 := D2.out.cell 5
  simp only [List.getElem?_toArray, List.getElem?_cons_zero, List.getElem?_cons_succ] at q0 q1 q2 q3 q4 q5
  go_wp2_with fail
  refine (secs_any y m d k mi sec a _ H3.out).mono ?_
  rw [HV2.out]
  rintro e w3 ⟨rfl, hb⟩
  have E4 := Lib.hid (E3.out.below hb m2)
  have C4 := Lib.hid (C3.out.below hb (by omega))
  have D4 := Lib.hid (D3.out.below hb (by omega))
  have G4 := Lib.hid (below_then G3.out G3.out.size hb)
  have H4 := Lib.hid (H3.out.below hb)
  have l3 : w2.heap.size < w3.heap.size := Nat.lt_of_lt_of_le m2 hb.size
  clear hb E3 C3 D3 G3 H3 C2 D2 G2 H2 m2 q0 q1 q2 q3 q4 q5
  have q0 := D4.out.cell 0
  have q1 := D4.out.cell 1
  have q2 := D4.out.cell 2
  have q3 := D4.out.cell 3
  have q4 := D4.out.cell 4
  have q5 := D4.out.cell 5
  simp only [List.getElem?_toArray, List.getElem?_cons_zero, List.getElem?_cons_succ] at q0 q1 q2 q3 q4 q5
  go_wp2_with fail
  refine (rsecs_any y m d k mi sec a _).mono ?_
  rw [HV2.out]
  rintro e w4 ⟨rfl, hb⟩
  have E5 := Lib.hid (E4.out.below hb l3)
  have C5 := Lib.hid (C4.out.below hb (by omega))
  have G5 := Lib.hid (below_then G4.out G4.out.size hb)
  have H5 := Lib.hid (H4.out.below hb)
  clear hb E4 C4 D4 G4 H4 q0 q1 q2 q3 q4 q5
  have q0 := E5.out.cell 0
  have q1 := E5.out.cell 1
  have q2 := E5.out.cell 2
  have q3 := E5.out.cell 3
  have q4 := E5.out.cell 4
  have q5 := E5.out.cell 5
  simp only [List.getElem?_toArray, List.getElem?_cons_zero, List.getElem?_cons_succ] at q0 q1 q2 q3 q4 q5
  have r0 := C5.out.cell 0
  have r1 := C5.out.cell 1
  have r2 := C5.out.cell 2
  have r3 := C5.out.cell 3
  have r4 := C5.out.cell 4
  have r5 := C5.out.cell 5
  simp only [List.getElem?_toArray, List.getElem?_cons_zero, List.getElem?_cons_succ] at r0 r1 r2 r3 r4 r5
  go_wp2_with fail
  refine (awake_any _ H5.out).mono ?_
  rintro e w5 ⟨rfl, hb⟩
  have G6 := Lib.hid (below_then G5.out G5.out.size hb)
  clear hb
  go_wp2
  go_ret
  exact ⟨rfl, G6.out⟩

set_option maxRecDepth 100000 in
theorem civilTimes_lifted (os : Os) (started : os.Started) (H : Type) (enc : TypeId × Value → H) :
    ReturnsInHanded {} Tryd.checked os 5 .any (fun w args => (Rows.civilTimesSpec.pre enc Tryd.prog Tryd.f5 [] false w args ∧ laidMetH Tryd.prog laidA w) ∧ sizedMet enc Tryd.prog Tryd.f5 (OpenSpec.ofChange Rows.civilTimesSpec) false w args)
      (Rows.civilTimesSpec.post enc Tryd.prog Tryd.f5 false true false false) := by
  refine returnsInHanded_of_change_and (C := Tryd.checked) (X := fun w _ => laidMetH Tryd.prog laidA w) (fun _ _ _ hh h => h.of_heap hh) tOwn started (by kernel_rfl) Tryd.func5
    (ChangeSpec.witness_shaped (enc := enc) (C := Tryd.checked) (os := os) (X := fun w _ => laidMetH Tryd.prog laidA w) false (World.doorLaid Tryd.prog 400 os) #[.int .i64 0, .int .i64 0, .agg #[.int .i64 0, .int .i64 0, .int .i64 0, .int .i64 0, .int .i64 0, .int .i64 0]] 8 rfl (World.shaped_of_RefB (by kernel_rfl) (by kernel_rfl)) (by kernel_rfl) (by kernel_rfl) (by kernel_rfl) (door_met os _)) ?_
  intro W base args ds gs before hval0 hW _ _ hL _
  have hval : ∀ (j : Nat) t v, Tryd.f5.params[j]? = some t → args[j]? = some v → Value.okWide Tryd.prog W .any base t v := hval0
  have hW' := hW
  obtain ⟨p, q, hA0, hV, rfl, hfz, hnd⟩ := hW
  have hA : DataW.TrodAll enc Tryd.prog W 0 (fun _ => true) true Tryd.f5.params.toList args.toList ds p := hA0
  rw [Tryd.params5] at hA hval
  obtain ⟨v0, vs0, d0, ds0, p0, q0, hargs, rfl, rfl, h0, r0⟩ := trodAll_cons hA
  obtain ⟨v1, vs1, d1, ds1, p1, q1, rfl, rfl, rfl, h1, r1⟩ := trodAll_cons r0
  obtain ⟨v2, vs2, d2, ds2, p2, q2, rfl, rfl, rfl, h2, r2⟩ := trodAll_cons r1
  obtain ⟨rfl, rfl, rfl⟩ := trodAll_nil r2
  obtain rfl : args = #[v0, v1, v2] := by cases args; simp_all
  obtain ⟨s, rfl, rfl, rfl, ws⟩ := open_int Tryd.underlying3 (hval 0 3 v0 rfl rfl) h0
  obtain ⟨a, rfl, rfl, rfl, wa⟩ := open_int Tryd.underlying3 (hval 1 3 v1 rfl rfl) h1
  obtain ⟨t0, t1, t2, t3, t4, t5, rfl, bt⟩ := open_time (hval 2 34 v2 rfl rfl) h2
  refine (times_law s a t0 t1 t2 t3 t4 t5 W (ah_of_laid hL)).mono fun e W' ⟨he, hb⟩ => ?_
  subst he
  exact ⟨_, rfl, law_post tLaid (by decide +kernel) hW' rfl (by kernel_rfl) Tryd.underlying4 rfl hb⟩

theorem civilTimes_row : Rows.CivilTimesSaid :=
  OpenClaim.holds_of_wide 5 Tryd.f5 rfl rfl rfl rfl rfl rfl rfl ⟨rfl, rfl, rfl, rfl, rfl⟩ rfl rfl rfl rfl rfl (by kernel_rfl) Tryd.func5 (by kernel_rfl)
    (of_decide_eq_true (by kernel_rfl)) (by unfold Func.isWrapper; rw [if_neg (of_decide_eq_false (by kernel_rfl))]; exact ⟨rfl, rfl⟩)
    (fun os started H enc _ => civilTimes_lifted os started H enc)

/-- The statement: the tied card. -/
theorem civilTimes_holds : Rows.CivilTimesCardSaid :=
  Claim7.holds_tied_plain_at .later [] [.data] true (true, "7a54627c4d33d3471ccb311b10eaade565bb5abb21a7a417936f7409417c04b8") false
    civilTimes_row (fun _ h => by cases h) (by kernel_rfl) (fun _ h => by cases h) civilTimes_row_tie rfl ⟨rfl, rfl⟩ (by kernel_rfl) rfl
    (fun f fn hf hfn => by
      obtain rfl : f = 5 := Option.some.inj ((show Tryd.prog.funcNamed "watchfire/watchfirelaw25.CivilTimes" = some 5 by kernel_rfl).symm.trans hf) |>.symm
      obtain rfl : fn = Tryd.f5 := (Option.some.inj (Tryd.func5.symm.trans hfn)).symm
      exact ⟨by kernel_rfl, fun j t ht => by
        rw [Tryd.params5] at ht
        have hm : t ∈ [3, 3, 34] := by simpa using Array.mem_of_getElem? ht
        have hall : ([3, 3, 34].all fun u => !Tryd.prog.wantsStandIn u) = true := by kernel_rfl
        exact (show Tryd.prog.wantsStandIn t = false by simpa using List.all_eq_true.1 hall t hm)⟩)
    (by kernel_rfl)
#print axioms civilTimes_holds

end Go.Proofs.YtkmkeimofhpkeaaDoor
