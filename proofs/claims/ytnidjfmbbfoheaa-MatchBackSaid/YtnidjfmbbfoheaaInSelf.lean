/- The statement InhibitSelf. Conditions: none. -/
import Derived.Test.YtnidjfmbbfoheaaInE
namespace Go.Proofs.Ytnidjfmbbfoheaa
set_option linter.unusedVariables false
set_option linter.unusedSimpArgs false
open Go.ChangeShapes Go.WideShapes Go.ChangeAt Go.RowKit Go.Joins Go.Deep Go.BigFrame

theorem byB_self (r : Rl) (a : List Pr) : byB r a a = false := by
  unfold byB
  cases allB r.s.l a <;> cases allB r.t.l a <;> simp
theorem byB_both (r : Rl) (a b : List Pr) (h : byB r a b = true) : byB r b a = false := by
  unfold byB at *
  cases e1 : allB r.s.l a <;> cases e2 : allB r.t.l b <;> cases e3 : allB r.t.l a <;> cases e4 : allB r.s.l b <;> simp [e1, e2, e3, e4] at *
theorem light6_two {r : Rl} {a b : PR} (h : light6B [r] [a, b] = true) : r.Small ∧ a.Light ∧ b.Light := by
  unfold light6B at h
  simp only [List.all_cons, List.all_nil, Bool.and_true, Bool.and_eq_true] at h
  exact ⟨few_small h.2, light_pr_is h.1.2.1, light_pr_is h.1.2.2⟩
theorem reads_rl {W : World} {g : Nat} {r : Rl} (h : Blk W g 47 #[r.s.val, r.t.val, r.e.val]) : Reads W (fun b => b < W.heap.size) 3 (some ⟨g, 0, none⟩) [r].length ([r].flatMap Rl.cells) := reads_blk_lt h rfl rfl
theorem reads_two {W : World} {g : Nat} {a b : PR} (h : Blk W g 38 #[a.val, b.val]) : Reads W (fun b => b < W.heap.size) 1 (some ⟨g, 0, none⟩) [a, b].length ([a, b].flatMap fun p : PR => [p.val]) := reads_blk_lt h rfl rfl
set_option maxRecDepth 100000 in
set_option maxHeartbeats 4000000 in
theorem self_law (r : Rl) (a b : PR) (w : World) (Hr : r.In w) (Ha : a.In w) (Hb : b.In w) :
    Calls Try.prog 11 #[r.val, a.val, b.val] w fun e w' => e = .returned (.bool true) ∧ Below w.heap.size w w' := by
  have HL : Hid (∀ (w' : World) (g1 g2 : Nat), Below w.heap.size w w' → Blk w' g1 47 #[r.s.val, r.t.val, r.e.val] → Blk w' g2 38 #[a.val, b.val] → Calls Try.prog 33 #[.slice (some ⟨g1, 0, none⟩) 1 1, .slice (some ⟨g2, 0, none⟩) 2 2] w' fun e w2 => e = .returned (.bool (light6B [r] [a, b])) ∧ Below w'.heap.size w' w2) :=
    Lib.hid (fun w' g1 g2 hb h1 h2 => light6_any _ 1 [r] _ 2 [a, b] w' (reads_rl h1) (reads_two h2) (fun p hp => by
      simp only [List.mem_cons, List.not_mem_nil, or_false] at hp
      rcases hp with rfl | rfl
      · exact Ha.below hb
      · exact Hb.below hb))
  have s1 : (w.alloc (.cells #[r.s.val, r.t.val, r.e.val] 47)).heap.size = w.heap.size + 1 := by simp
  have s2 : ((w.alloc (.cells #[r.s.val, r.t.val, r.e.val] 47)).alloc (.cells #[r.s.val, r.t.val, r.e.val] 47)).heap.size = w.heap.size + 1 + 1 := by simp
  have K0 := Lib.hid ((((Below.refl w.heap.size w).alloc (Nat.le_refl _) (.cells #[r.s.val, r.t.val, r.e.val] 47)).alloc (by rw [s1]; omega) (.cells #[r.s.val, r.t.val, r.e.val] 47)).alloc (by rw [s2]; omega) (.cells #[a.val, b.val] 38))
  have B0 : Hid (Blk _ w.heap.size 47 #[r.s.val, r.t.val, r.e.val]) := Lib.hid (((Blk.new w 47 #[r.s.val, r.t.val, r.e.val]).alloc (.cells #[r.s.val, r.t.val, r.e.val] 47)).alloc (.cells #[a.val, b.val] 38))
  have B1 : Hid (Blk _ (w.heap.size + 1) 47 #[r.s.val, r.t.val, r.e.val]) := Lib.hid ((Blk.new_at (w := w.alloc (.cells #[r.s.val, r.t.val, r.e.val] 47)) (t := 47) (cs := #[r.s.val, r.t.val, r.e.val]) (by simp)).alloc (.cells #[a.val, b.val] 38))
  have B2 : Hid (Blk _ (w.heap.size + 1 + 1) 38 #[a.val, b.val]) := Lib.hid (Blk.new_at (w := (w.alloc (.cells #[r.s.val, r.t.val, r.e.val] 47)).alloc (.cells #[r.s.val, r.t.val, r.e.val] 47)) (t := 38) (cs := #[a.val, b.val]) (by simp))
  clear s1 s2
  cases h : light6B [r] [a, b] with
  | false =>
    rw [h] at HL
    clear h Hr Ha Hb
    unfold Rl.val
    unfold MR.val TR.val PR.val at *
    go_enter Try.func11, Try.ntmps11
    go_wp2_with fail
    refine (HL.out _ _ _ K0.out B1.out B2.out).mono ?_
    rintro e w1 ⟨rfl, hk⟩
    have K1 := Lib.hid (below_then K0.out K0.out.size hk)
    clear hk
    go_wp2_with fail
    refine (awake6 _).mono ?_
    rintro e w2 ⟨rfl, hk⟩
    have K2 := Lib.hid (below_then K1.out K1.out.size hk)
    clear hk
    go_wp2
    go_ret
    exact ⟨rfl, K2.out⟩
  | true =>
    obtain ⟨hs, la, lb⟩ := light6_two h
    rw [h] at HL
    have HAA : Hid (∀ w', Below w.heap.size w w' → Calls Try.prog 35 #[.agg #[r.s.val, r.t.val, r.e.val], a.val, a.val] w' fun e w2 => e = .returned (.bool false) ∧ Below w'.heap.size w' w2) :=
      Lib.hid (fun w' hb => by have := by_any r a a w' (Hr.below hb) hs (Ha.below hb) (Ha.below hb) la la; rw [byB_self] at this; exact this)
    have HAB : Hid (∀ w', Below w.heap.size w w' → Calls Try.prog 35 #[.agg #[r.s.val, r.t.val, r.e.val], a.val, b.val] w' fun e w2 => e = .returned (.bool (byB r a.l b.l)) ∧ Below w'.heap.size w' w2) :=
      Lib.hid (fun w' hb => by_any r a b w' (Hr.below hb) hs (Ha.below hb) (Hb.below hb) la lb)
    have HBA : Hid (byB r a.l b.l = true → ∀ w', Below w.heap.size w w' → Calls Try.prog 35 #[.agg #[r.s.val, r.t.val, r.e.val], b.val, a.val] w' fun e w2 => e = .returned (.bool false) ∧ Below w'.heap.size w' w2) :=
      Lib.hid (fun hq w' hb => by have := by_any r b a w' (Hr.below hb) hs (Hb.below hb) (Ha.below hb) lb la; rw [byB_both r a.l b.l hq] at this; exact this)
    clear h Hr Ha Hb hs la lb
    unfold Rl.val
    generalize byB r a.l b.l = X at *
    unfold MR.val TR.val PR.val at *
    go_enter Try.func11, Try.ntmps11
    go_wp2_with fail
    refine (HL.out _ _ _ K0.out B1.out B2.out).mono ?_
    rintro e w1 ⟨rfl, hk⟩
    have K1 := Lib.hid (below_then K0.out K0.out.size hk)
    have C1 := Lib.hid (B0.out.below hk B0.out.lt)
    clear hk
    have y0 := C1.out.cell 0
    have y1 := C1.out.cell 1
    have y2 := C1.out.cell 2
    simp only [List.getElem?_toArray, List.getElem?_cons_zero, List.getElem?_cons_succ] at y0 y1 y2
    go_wp2_with fail
    refine (HAA.out _ K1.out).mono ?_
    rintro e w2 ⟨rfl, hk⟩
    have K2 := Lib.hid (below_then K1.out K1.out.size hk)
    have C2 := Lib.hid (C1.out.below hk C1.out.lt)
    clear hk y0 y1 y2
    have y0 := C2.out.cell 0
    have y1 := C2.out.cell 1
    have y2 := C2.out.cell 2
    simp only [List.getElem?_toArray, List.getElem?_cons_zero, List.getElem?_cons_succ] at y0 y1 y2
    go_wp2_with fail
    refine (HAB.out _ K2.out).mono ?_
    rintro e w3 ⟨rfl, hk⟩
    have K3 := Lib.hid (below_then K2.out K2.out.size hk)
    have C3 := Lib.hid (C2.out.below hk C2.out.lt)
    clear hk y0 y1 y2
    have y0 := C3.out.cell 0
    have y1 := C3.out.cell 1
    have y2 := C3.out.cell 2
    simp only [List.getElem?_toArray, List.getElem?_cons_zero, List.getElem?_cons_succ] at y0 y1 y2
    cases X
    · go_wp2_with fail
      refine (awake6 _).mono ?_
      rintro e w4 ⟨rfl, hk⟩
      have K4 := Lib.hid (below_then K3.out K3.out.size hk)
      clear hk
      go_wp2
      go_ret
      exact ⟨rfl, K4.out⟩
    · go_wp2_with fail
      refine (HBA.out (by simp) _ K3.out).mono ?_
      rintro e w4 ⟨rfl, hk⟩
      have K4 := Lib.hid (below_then K3.out K3.out.size hk)
      clear hk
      go_wp2_with fail
      refine (awake6 _).mono ?_
      rintro e w5 ⟨rfl, hk⟩
      have K5 := Lib.hid (below_then K4.out K4.out.size hk)
      clear hk
      go_wp2
      go_ret
      exact ⟨rfl, K5.out⟩
set_option maxRecDepth 100000 in
theorem inhibitSelf_lifted (os : Os) (started : os.Started) (H : Type) (enc : TypeId × Value → H) :
    ReturnsInHanded {} Try.checked os 11 .any (Rows.inhibitSelfSpec.pre6 enc Try.prog Try.f11 Rows.inhibitSelfRow.domain false) (Rows.inhibitSelfSpec.post enc Try.prog Try.f11 false true false false) := by
  refine returnsInHanded_of_change (C := Try.checked) tOwn started (by kernel_rfl) Try.func11
    (ChangeSpec.witness6 (enc := enc) (C := Try.checked) false ⟨#[], #[.agg #[.slice none 0 0, .slice none 0 0, .slice none 0 0], .slice none 0 0, .slice none 0 0], []⟩ 8 (by kernel_rfl) (by kernel_rfl) (by kernel_rfl) (by kernel_rfl)) ?_
  intro W base args ds gs before hval0 hW hcnd _
  have hval : ∀ (j : Nat) t v, Try.f11.params[j]? = some t → args[j]? = some v → Value.okWide Try.prog W .any base t v := hval0
  have hW' := hW
  obtain ⟨p, q, hA0, hV, rfl, hfz, hnd⟩ := hW
  have hA : DataW.TrodAll enc Try.prog W 0 (fun _ => true) true Try.f11.params.toList args.toList ds p := hA0
  rw [Try.params11] at hA hval
  obtain ⟨v0, vs0, d0, ds0, p0, q0, hargs, rfl, rfl, h0, r0⟩ := trodAll_cons hA
  obtain ⟨v1, vs1, d1, ds1, p1, q1, rfl, rfl, rfl, h1, r1⟩ := trodAll_cons r0
  obtain ⟨v2, vs2, d2, ds2, p2, q2, rfl, rfl, rfl, h2, r2⟩ := trodAll_cons r1
  obtain ⟨rfl, rfl, rfl⟩ := trodAll_nil r2
  obtain rfl : args = #[v0, v1, v2] := by cases args; simp_all
  obtain ⟨r, rfl, ir⟩ := open_rule (hval 0 47 v0 rfl rfl) h0
  obtain ⟨a, rfl, ia⟩ := open_pr (hval 1 38 v1 rfl rfl) h1
  obtain ⟨b, rfl, ib⟩ := open_pr (hval 2 38 v2 rfl rfl) h2
  refine (self_law r a b W ir ia ib).mono fun e W' ⟨he, hb⟩ => ?_
  subst he
  exact ⟨_, rfl, law_post tLaid (by decide +kernel) hW' rfl (by kernel_rfl) Try.underlying4 rfl hb⟩

/-- The closed facts of the row. -/
theorem inhibitSelf_facts : joinedFacts Try.pinned.checked.prog 11 Try.f11 Rows.inhibitSelfSpec Rows.inhibitSelfRow = true := joined_at 11 Try.f11 Rows.inhibitSelfSpec Rows.inhibitSelfRow (by
  intro P hP h1 h2 h3
  unfold joinedFacts
  rw [h1, h2, h3]
  subst hP
  kernel_rfl)
/-- The statement. -/
theorem inhibitSelf_holds : Rows.InhibitSelfSaid :=
  OpenClaim.holds_of_wide 11 Try.f11 rfl rfl rfl rfl rfl rfl rfl ⟨rfl, rfl, rfl, rfl, rfl⟩ rfl rfl rfl rfl rfl (by kernel_rfl) Try.func11 inhibitSelf_facts
    (of_decide_eq_true (by kernel_rfl)) (by unfold Func.isWrapper; rw [if_neg (of_decide_eq_false (by kernel_rfl))]; exact ⟨rfl, rfl⟩)
    (fun os started H enc _ => inhibitSelf_lifted os started H enc)
#print axioms inhibitSelf_holds
end Go.Proofs.Ytnidjfmbbfoheaa
