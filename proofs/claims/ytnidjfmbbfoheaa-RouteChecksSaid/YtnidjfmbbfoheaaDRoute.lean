/- THE LAW RouteChecks: whether any configuration may be is told as the document says. -/
import Derived.Test.YtnidjfmbbfoheaaDR
import Derived.Test.YtnidjfmbbfoheaaT4
import Derived.Test.YtnidjfmbbfoheaaRxHead
namespace Go.Proofs.Ytnidjfmbbfoheaa
set_option linter.unusedVariables false
set_option linter.unusedSimpArgs false
open Go.ChangeShapes Go.WideShapes Go.ChangeAt Go.RowKit Go.Joins Go.Deep Go.BigFrame

set_option maxRecDepth 100000 in
set_option maxHeartbeats 4000000 in
theorem rchecks_law (c : Cf) (w : World) (H : c.In w) (HF : c.Fit) : Calls Try.prog 18 #[c.val] w fun e w' => e = .returned (.bool true) ∧ Below w.heap.size w w' := by
  have HL := Lib.hid (fun w' (hb : Below w.heap.size w w') => lightc_any c w' (H.below hb))
  have HC := Lib.hid (fun w' (hb : Below w.heap.size w w') => check47_any c w' (H.below hb))
  have HR := Lib.hid (fun w' (hb : Below w.heap.size w w') => rcheck48_any c w' (H.below hb) HF)
  have K1 := Lib.hid ((Below.refl w.heap.size w).alloc (Nat.le_refl _) (.cells c.cells 70))
  have BB := Lib.hid (Blk.new w 70 c.cells)
  clear H HF
  generalize lightC c = LB at *
  generalize cfB c = E at *
  obtain ⟨A, cp, l, B, cq, rl, pt, rs⟩ := c
  unfold Cf.val at *
  simp only [Cf.cells] at K1 BB HL HC HR ⊢
  generalize l.length = n at *
  generalize rl.length = m at *
  go_enter Try.func18, Try.ntmps18
  go_upto_region 1 with fail
  generalize w.alloc (.cells #[.slice A n cp, .slice B m cq, .int .i64 pt, .int .i64 rs] 70) = w1 at *
  obtain ⟨bx, hbx⟩ : ∃ b, w.heap.size = b := ⟨_, rfl⟩
  have BX : Hid (Blk w1 bx 70 #[.slice A n cp, .slice B m cq, .int .i64 pt, .int .i64 rs]) := Lib.hid (by rw [← hbx]; exact BB.out)
  rw [hbx]
  clear hbx BB
  have e0 := fun y : Ext w1.heap.size w1 => (Ext.blk BX.out BX.out.lt (x := y)).cell 0
  have e1 := fun y : Ext w1.heap.size w1 => (Ext.blk BX.out BX.out.lt (x := y)).cell 1
  have e2 := fun y : Ext w1.heap.size w1 => (Ext.blk BX.out BX.out.lt (x := y)).cell 2
  have e3 := fun y : Ext w1.heap.size w1 => (Ext.blk BX.out BX.out.lt (x := y)).cell 3
  simp only [List.getElem?_toArray, List.getElem?_cons_zero, List.getElem?_cons_succ] at e0 e1 e2 e3
  have HL2 : Hid (∀ x : Ext w1.heap.size w1, Calls Try.prog 46 #[.agg #[.slice A n cp, .slice B m cq, .int .i64 pt, .int .i64 rs]] x.W fun e w' => e = .returned (.bool LB) ∧ Below x.W.heap.size x.W w') := Lib.hid (fun x => HL.out _ (below_then K1.out K1.out.size x.h))
  have HC2 : Hid (∀ x : Ext w1.heap.size w1, Calls Try.prog 47 #[.agg #[.slice A n cp, .slice B m cq, .int .i64 pt, .int .i64 rs]] x.W fun e w' => e = .returned (.int .i64 E) ∧ Below x.W.heap.size x.W w') := Lib.hid (fun x => HC.out _ (below_then K1.out K1.out.size x.h))
  have HR2 : Hid (∀ x : Ext w1.heap.size w1, Calls Try.prog 48 #[.agg #[.slice A n cp, .slice B m cq, .int .i64 pt, .int .i64 rs]] x.W fun e w' => e = .returned (.int .i64 E) ∧ Below x.W.heap.size x.W w') := Lib.hid (fun x => HR.out _ (below_then K1.out K1.out.size x.h))
  clear HL HC HR
  cases LB
  all_goals
    refine wp_region_exts (by kernel_rfl) (by kernel_rfl) ?_
    repeat
      first
        | go_big_quiet_skip
        | (go_big_quiet_want; go_big_quiet_op
           first
             | go_big_quiet_on
             | (apply Exists.intro
                refine ⟨fun x => ?_, ?_⟩
                · (first
                    | (go_at_call 46; with_reducible exact calls_ext (Nat.le_refl _) (HL2.out x))
                    | (go_at_call 47; with_reducible exact calls_ext (Nat.le_refl _) (HC2.out x))
                    | (go_at_call 48; with_reducible exact calls_ext (Nat.le_refl _) (HR2.out x))
                    | (go_at_call 49; exact calls_ext (Nat.le_refl _) (awake5 _)))
                go_big_quiet_on
                try (skip)))
    refine wpQuiet_nil ?_
    rintro _ ⟨x, rfl⟩
    have KX := Lib.hid (below_then K1.out K1.out.size x.h)
    clear e0 e1 e2 e3
    go_wp2
    go_ret
    exact ⟨rfl, KX.out⟩
set_option maxRecDepth 100000 in
theorem routeChecks_lifted (os : Os) (started : os.Started) (H : Type) (enc : TypeId × Value → H) :
    ReturnsInHanded {} Try.checked os 18 .any (Rows.routeChecksSpec.pre6 enc Try.prog Try.f18 Rows.routeChecksRow.domain false) (Rows.routeChecksSpec.post enc Try.prog Try.f18 false true false false) := by
  refine returnsInHanded_of_change (C := Try.checked) tOwn started (by kernel_rfl) Try.func18
    (ChangeSpec.witness6 (enc := enc) (C := Try.checked) false ⟨#[], #[.agg #[.slice none 0 0, .slice none 0 0, .int .i64 0, .int .i64 0]], []⟩ 8 (by kernel_rfl) (by kernel_rfl) (by kernel_rfl) (by kernel_rfl)) ?_
  intro W base args ds gs before hval0 hW hcnd _
  have hval : ∀ (j : Nat) t v, Try.f18.params[j]? = some t → args[j]? = some v → Value.okWide Try.prog W .any base t v := hval0
  have hW' := hW
  obtain ⟨p, q, hA0, hV, rfl, hfz, hnd⟩ := hW
  have hA : DataW.TrodAll enc Try.prog W 0 (fun _ => true) true Try.f18.params.toList args.toList ds p := hA0
  rw [Try.params18] at hA hval
  obtain ⟨v0, vs0, d0, ds0, p0, q0, hargs, rfl, rfl, h0, r0⟩ := trodAll_cons hA
  obtain ⟨rfl, rfl, rfl⟩ := trodAll_nil r0
  obtain rfl : args = #[v0] := by cases args; simp_all
  obtain ⟨c, rfl, oc, fc⟩ := open_cf2 (hval 0 70 v0 rfl rfl) h0
  refine (rchecks_law c W oc fc).mono fun e W' ⟨he, hb⟩ => ?_
  subst he
  exact ⟨_, rfl, law_post tLaid (by decide +kernel) hW' rfl (by kernel_rfl) Try.underlying4 rfl hb⟩

/-- The closed facts of the row. -/
theorem routeChecks_facts : joinedFacts Try.pinned.checked.prog 18 Try.f18 Rows.routeChecksSpec Rows.routeChecksRow = true := joined_at 18 Try.f18 Rows.routeChecksSpec Rows.routeChecksRow (by
  intro P hP h1 h2 h3
  unfold joinedFacts
  rw [h1, h2, h3]
  subst hP
  kernel_rfl)
/-- The statement. -/
theorem routeChecks_holds : Rows.RouteChecksSaid :=
  OpenClaim.holds_of_wide 18 Try.f18 rfl rfl rfl rfl rfl rfl rfl ⟨rfl, rfl, rfl, rfl, rfl⟩ rfl rfl rfl rfl rfl (by kernel_rfl) Try.func18 routeChecks_facts
    (of_decide_eq_true (by kernel_rfl)) (by unfold Func.isWrapper; rw [if_neg (of_decide_eq_false (by kernel_rfl))]; exact ⟨rfl, rfl⟩)
    (fun os started H enc _ => routeChecks_lifted os started H enc)
#print axioms routeChecks_holds
end Go.Proofs.Ytnidjfmbbfoheaa
