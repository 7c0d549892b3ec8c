/- The statement CivilTexts: any time is told, and any text read, as the document says. Conditions: the table is as the program's text lays it (tied on the card). -/
import Derived.Test.YtkmkeimofhpkeaaDoorTime
import Derived.Test.YtkmkeimofhpkeaaDoorSame
import Derived.Deep.DeepCutAuto
import Derived.Test.YtkmkeimofhpkeaaDoorCards
import Derived.Test.YtkmkeimofhpkeaaDoorTie
import Derived.SevenTiedAt
namespace Go.Proofs.YtkmkeimofhpkeaaDoor
set_option linter.unusedVariables false
set_option linter.unusedSimpArgs false
open Go.ChangeShapes Go.WideShapes Go.ChangeAt Go.RowKit Go.Joins Go.Deep

set_option maxRecDepth 100000 in
set_option maxHeartbeats 2000000 in
theorem texts_law (y m d k mi sec : Int) (s : List UInt8) (w : World) (hA : AH w) (hsz : s.length ≤ 9223372036854775807) : Calls Tryd.prog 8 #[tagg y m d k mi sec, .string ⟨s.toArray⟩] w fun e w' => e = .returned (.bool true) ∧ Below w.heap.size w w' := by
  unfold tagg
  obtain ⟨x0, x1, x2, x3, x4, x5, e1, hv⟩ : ∃ x0 x1 x2 x3 x4 x5 e1, readVal s = .tuple #[.agg #[.int .i64 x0, .int .i64 x1, .int .i64 x2, .int .i64 x3, .int .i64 x4, .int .i64 x5], .int .i64 e1] := by
    unfold readVal ofVal tagg
    split
    · split
      · exact ⟨_, _, _, _, _, _, _, rfl⟩
      · split
        · exact ⟨_, _, _, _, _, _, _, rfl⟩
        · split <;> exact ⟨_, _, _, _, _, _, _, rfl⟩
    · exact ⟨_, _, _, _, _, _, _, rfl⟩
  obtain ⟨tx, htx⟩ : ∃ tx, textVal y m d mi sec = .string tx := by
    unfold textVal; split <;> exact ⟨_, rfl⟩
  have HV := Lib.hid hv
  have HV2 := Lib.hid ((read_same s).symm.trans hv)
  have HTX := Lib.hid htx
  clear hv htx
  have hB := Blk.new w 34 #[.int .i64 y, .int .i64 m, .int .i64 d, .int .i64 k, .int .i64 mi, .int .i64 sec]
  have hK : Below w.heap.size w (w.alloc (.cells #[.int .i64 y, .int .i64 m, .int .i64 d, .int .i64 k, .int .i64 mi, .int .i64 sec] 34)) := (Below.refl _ _).alloc (Nat.le_refl _) _
  have hA1 := hA.below hK
  have hl : w.heap.size < (w.alloc (.cells #[.int .i64 y, .int .i64 m, .int .i64 d, .int .i64 k, .int .i64 mi, .int .i64 sec] 34)).heap.size := by simp
  go_enter Tryd.func8, Tryd.ntmps8
  go_upto_region 1 with fail
  generalize w.alloc (.cells #[.int .i64 y, .int .i64 m, .int .i64 d, .int .i64 k, .int .i64 mi, .int .i64 sec] 34) = W at *
  have B := Lib.hid hB
  have K := Lib.hid hK
  have AA := Lib.hid hA1
  clear hA hA1 hB hK
  go_wp2_with fail
  refine (read_any s _ AA.out hsz).mono ?_
  rw [HV.out]
  rintro e w1 ⟨rfl, hb⟩
  have B1 := Lib.hid (B.out.below hb hl)
  have K1 := Lib.hid (below_then K.out K.out.size hb)
  have A1 := Lib.hid (AA.out.below hb)
  have l1 : w.heap.size < w1.heap.size := Nat.lt_of_lt_of_le hl hb.size
  clear hb B K AA
  have C1 := Lib.hid (Blk.new w1 34 #[.int .i64 x0, .int .i64 x1, .int .i64 x2, .int .i64 x3, .int .i64 x4, .int .i64 x5])
  have D1 := Lib.hid (B1.out.alloc (.cells #[.int .i64 x0, .int .i64 x1, .int .i64 x2, .int .i64 x3, .int .i64 x4, .int .i64 x5] 34))
  have G1 := Lib.hid (K1.out.alloc K1.out.size (.cells #[.int .i64 x0, .int .i64 x1, .int .i64 x2, .int .i64 x3, .int .i64 x4, .int .i64 x5] 34))
  have H1 := Lib.hid (A1.out.below ((Below.refl _ w1).alloc (Nat.le_refl _) (.cells #[.int .i64 x0, .int .i64 x1, .int .i64 x2, .int .i64 x3, .int .i64 x4, .int .i64 x5] 34)))
  have m1 : w1.heap.size < (w1.alloc (.cells #[.int .i64 x0, .int .i64 x1, .int .i64 x2, .int .i64 x3, .int .i64 x4, .int .i64 x5] 34)).heap.size := by simp
  go_wp2_with fail
  refine (rread_any s _ hsz).mono ?_
  rw [HV2.out]
  rintro e w2 ⟨rfl, hb⟩
  have C2 := Lib.hid (C1.out.below hb m1)
  have D2 := Lib.hid (D1.out.below hb (by omega))
  have G2 := Lib.hid (below_then G1.out G1.out.size hb)
  have H2 := Lib.hid (H1.out.below hb)
  have l2 : w1.heap.size < w2.heap.size := Nat.lt_of_lt_of_le m1 hb.size
  have l2' : w.heap.size < w2.heap.size := by omega
  clear hb C1 D1 G1 H1 m1 B1 K1 A1
  go_upto_region 3 with fail
  have E3 := Lib.hid (Blk.new w2 37 #[.int .i64 x0, .int .i64 x1, .int .i64 x2, .int .i64 x3, .int .i64 x4, .int .i64 x5])
  have C3 := Lib.hid (C2.out.alloc (.cells #[.int .i64 x0, .int .i64 x1, .int .i64 x2, .int .i64 x3, .int .i64 x4, .int .i64 x5] 37))
  have D3 := Lib.hid (D2.out.alloc (.cells #[.int .i64 x0, .int .i64 x1, .int .i64 x2, .int .i64 x3, .int .i64 x4, .int .i64 x5] 37))
  have G3 := Lib.hid (G2.out.alloc G2.out.size (.cells #[.int .i64 x0, .int .i64 x1, .int .i64 x2, .int .i64 x3, .int .i64 x4, .int .i64 x5] 37))
  have H3 := Lib.hid (H2.out.below ((Below.refl _ w2).alloc (Nat.le_refl _) (.cells #[.int .i64 x0, .int .i64 x1, .int .i64 x2, .int .i64 x3, .int .i64 x4, .int .i64 x5] 37)))
  have m2 : w2.heap.size < (w2.alloc (.cells #[.int .i64 x0, .int .i64 x1, .int .i64 x2, .int .i64 x3, .int .i64 x4, .int .i64 x5] 37)).heap.size := by simp
  clear C2 D2 G2 H2
  generalize w2.alloc (.cells #[.int .i64 x0, .int .i64 x1, .int .i64 x2, .int .i64 x3, .int .i64 x4, .int .i64 x5] 37) = w3 at *
  have ha0 := fun x : Ext w3.heap.size w3 => (Ext.blk D3.out D3.out.lt (x := x)).cell 0
  have ha1 := fun x : Ext w3.heap.size w3 => (Ext.blk D3.out D3.out.lt (x := x)).cell 1
  have ha2 := fun x : Ext w3.heap.size w3 => (Ext.blk D3.out D3.out.lt (x := x)).cell 2
  have ha3 := fun x : Ext w3.heap.size w3 => (Ext.blk D3.out D3.out.lt (x := x)).cell 3
  have ha4 := fun x : Ext w3.heap.size w3 => (Ext.blk D3.out D3.out.lt (x := x)).cell 4
  have ha5 := fun x : Ext w3.heap.size w3 => (Ext.blk D3.out D3.out.lt (x := x)).cell 5
  have hc0 := fun x : Ext w3.heap.size w3 => (Ext.blk C3.out C3.out.lt (x := x)).cell 0
  have hc1 := fun x : Ext w3.heap.size w3 => (Ext.blk C3.out C3.out.lt (x := x)).cell 1
  have hc2 := fun x : Ext w3.heap.size w3 => (Ext.blk C3.out C3.out.lt (x := x)).cell 2
  have hc3 := fun x : Ext w3.heap.size w3 => (Ext.blk C3.out C3.out.lt (x := x)).cell 3
  have hc4 := fun x : Ext w3.heap.size w3 => (Ext.blk C3.out C3.out.lt (x := x)).cell 4
  have hc5 := fun x : Ext w3.heap.size w3 => (Ext.blk C3.out C3.out.lt (x := x)).cell 5
  have he0 := fun x : Ext w3.heap.size w3 => (Ext.blk E3.out E3.out.lt (x := x)).cell 0
  have he1 := fun x : Ext w3.heap.size w3 => (Ext.blk E3.out E3.out.lt (x := x)).cell 1
  have he2 := fun x : Ext w3.heap.size w3 => (Ext.blk E3.out E3.out.lt (x := x)).cell 2
  have he3 := fun x : Ext w3.heap.size w3 => (Ext.blk E3.out E3.out.lt (x := x)).cell 3
  have he4 := fun x : Ext w3.heap.size w3 => (Ext.blk E3.out E3.out.lt (x := x)).cell 4
  have he5 := fun x : Ext w3.heap.size w3 => (Ext.blk E3.out E3.out.lt (x := x)).cell 5
  simp only [List.getElem?_toArray, List.getElem?_cons_zero, List.getElem?_cons_succ] at ha0 ha1 ha2 ha3 ha4 ha5 hc0 hc1 hc2 hc3 hc4 hc5 he0 he1 he2 he3 he4 he5
  have ht1 : ∀ x : Ext w3.heap.size w3, Calls Tryd.prog 25 #[.agg #[.int .i64 y, .int .i64 m, .int .i64 d, .int .i64 k, .int .i64 mi, .int .i64 sec]] x.W fun e w' => e = .returned (.string tx) ∧ Below x.W.heap.size x.W w' := fun x => by
    have := text_any y m d k mi sec x.W (H3.out.below x.h); rw [HTX.out] at this; exact this
  have ht2 : ∀ x : Ext w3.heap.size w3, Calls Tryd.prog 26 #[.agg #[.int .i64 y, .int .i64 m, .int .i64 d, .int .i64 k, .int .i64 mi, .int .i64 sec]] x.W fun e w' => e = .returned (.string tx) ∧ Below x.W.heap.size x.W w' := fun x => by
    have := rtext_any y m d k mi sec x.W; rw [HTX.out] at this; exact this
  have HT1 := Lib.hid ht1
  have HT2 := Lib.hid ht2
  clear ht1 ht2
  refine wp_region_exts (by kernel_rfl) (by kernel_rfl) ?_
  repeat
    first
      | go_big_quiet_skip
      | (go_big_quiet_want; go_big_quiet_op
         first
           | go_big_quiet_on
           | (apply Exists.intro
              refine ⟨fun x => ?_, ?_⟩
              · (first | (go_at_call 25; exact calls_ext (Nat.le_refl _) (HT1.out x)) | (go_at_call 26; exact calls_ext (Nat.le_refl _) (HT2.out x)) | (go_at_call 16; exact calls_ext (Nat.le_refl _) (awake_any _ (H3.out.below x.h))))
              go_big_quiet_on
              try (skip)))
  refine wpQuiet_nil ?_
  rintro _ ⟨x, rfl⟩
  have KX := Lib.hid (below_then G3.out G3.out.size x.h)
  clear ha0 ha1 ha2 ha3 ha4 ha5 hc0 hc1 hc2 hc3 hc4 hc5 he0 he1 he2 he3 he4 he5
  go_wp2
  go_ret
  exact ⟨rfl, KX.out⟩

set_option maxRecDepth 100000 in
theorem civilTexts_lifted (os : Os) (started : os.Started) (H : Type) (enc : TypeId × Value → H) :
    ReturnsInHanded {} Tryd.checked os 8 .any (fun w args => (Rows.civilTextsSpec.pre enc Tryd.prog Tryd.f8 [] false w args ∧ laidMetH Tryd.prog laidA w) ∧ sizedMet enc Tryd.prog Tryd.f8 (OpenSpec.ofChange Rows.civilTextsSpec) false w args)
      (Rows.civilTextsSpec.post enc Tryd.prog Tryd.f8 false true false false) := by
  refine returnsInHanded_of_change_and (C := Tryd.checked) (X := fun w _ => laidMetH Tryd.prog laidA w) (fun _ _ _ hh h => h.of_heap hh) tOwn started (by kernel_rfl) Tryd.func8
    (ChangeSpec.witness_shaped (enc := enc) (C := Tryd.checked) (os := os) (X := fun w _ => laidMetH Tryd.prog laidA w) false (World.doorLaid Tryd.prog 400 os) #[.agg #[.int .i64 0, .int .i64 0, .int .i64 0, .int .i64 0, .int .i64 0, .int .i64 0], .string ⟨#[]⟩] 8 rfl (World.shaped_of_RefB (by kernel_rfl) (by kernel_rfl)) (by kernel_rfl) (by kernel_rfl) (by kernel_rfl) (door_met os _)) ?_
  intro W base args ds gs before hval0 hW _ _ hL _
  have hval : ∀ (j : Nat) t v, Tryd.f8.params[j]? = some t → args[j]? = some v → Value.okWide Tryd.prog W .any base t v := hval0
  have hW' := hW
  obtain ⟨p, q, hA0, hV, rfl, hfz, hnd⟩ := hW
  have hA : DataW.TrodAll enc Tryd.prog W 0 (fun _ => true) true Tryd.f8.params.toList args.toList ds p := hA0
  rw [Tryd.params8] at hA hval
  obtain ⟨v0, vs0, d0, ds0, p0, q0, hargs, rfl, rfl, h0, r0⟩ := trodAll_cons hA
  obtain ⟨v1, vs1, d1, ds1, p1, q1, rfl, rfl, rfl, h1, r1⟩ := trodAll_cons r0
  obtain ⟨rfl, rfl, rfl⟩ := trodAll_nil r1
  obtain rfl : args = #[v0, v1] := by cases args; simp_all
  obtain ⟨t0, t1, t2, t3, t4, t5, rfl, bt⟩ := open_time (hval 0 34 v0 rfl rfl) h0
  obtain ⟨⟨⟨s⟩⟩, rfl, rfl, rfl, ws⟩ := Go.ChangeMaps.open_string Tryd.underlying9 (hval 1 9 v1 rfl rfl) h1
  refine (texts_law t0 t1 t2 t3 t4 t5 s W (ah_of_laid hL) (by simpa [ByteArray.size, maxLen] using ws)).mono fun e W' ⟨he, hb⟩ => ?_
  subst he
  exact ⟨_, rfl, law_post tLaid (by decide +kernel) hW' rfl (by kernel_rfl) Tryd.underlying4 rfl hb⟩

theorem civilTexts_row : Rows.CivilTextsSaid :=
  OpenClaim.holds_of_wide 8 Tryd.f8 rfl rfl rfl rfl rfl rfl rfl ⟨rfl, rfl, rfl, rfl, rfl⟩ rfl rfl rfl rfl rfl (by kernel_rfl) Tryd.func8 (by kernel_rfl)
    (of_decide_eq_true (by kernel_rfl)) (by unfold Func.isWrapper; rw [if_neg (of_decide_eq_false (by kernel_rfl))]; exact ⟨rfl, rfl⟩)
    (fun os started H enc _ => civilTexts_lifted os started H enc)

/-- The statement: the tied card. -/
theorem civilTexts_holds : Rows.CivilTextsCardSaid :=
  Claim7.holds_tied_plain_at .later [] [.data] true (true, "7a54627c4d33d3471ccb311b10eaade565bb5abb21a7a417936f7409417c04b8") false
    civilTexts_row (fun _ h => by cases h) (by kernel_rfl) (fun _ h => by cases h) civilTexts_row_tie rfl ⟨rfl, rfl⟩ (by kernel_rfl) rfl
    (fun f fn hf hfn => by
      obtain rfl : f = 8 := Option.some.inj ((show Tryd.prog.funcNamed "watchfire/watchfirelaw25.CivilTexts" = some 8 by kernel_rfl).symm.trans hf) |>.symm
      obtain rfl : fn = Tryd.f8 := (Option.some.inj (Tryd.func8.symm.trans hfn)).symm
      exact ⟨by kernel_rfl, fun j t ht => by
        rw [Tryd.params8] at ht
        have hm : t ∈ [34, 9] := by simpa using Array.mem_of_getElem? ht
        have hall : ([34, 9].all fun u => !Tryd.prog.wantsStandIn u) = true := by kernel_rfl
        exact (show Tryd.prog.wantsStandIn t = false by simpa using List.all_eq_true.1 hall t hm)⟩)
    (by kernel_rfl)
#print axioms civilTexts_holds

end Go.Proofs.YtkmkeimofhpkeaaDoor
