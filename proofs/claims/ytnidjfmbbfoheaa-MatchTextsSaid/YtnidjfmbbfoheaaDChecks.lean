/- WALKS: the document's CheckAll, and the law MatchChecks. -/
import Derived.Test.YtnidjfmbbfoheaaDB
import Derived.Test.YtnidjfmbbfoheaaT2
import Derived.Test.YtnidjfmbbfoheaaMaNot
import Derived.Test.YtnidjfmbbfoheaaRxHead
namespace Go.Proofs.Ytnidjfmbbfoheaa
set_option linter.unusedVariables false
set_option linter.unusedSimpArgs false
open Go.ChangeShapes Go.WideShapes Go.ChangeAt Go.RowKit Go.Joins Go.Deep Go.BigFrame

set_option maxRecDepth 100000 in
set_option maxHeartbeats 2000000 in
theorem rcheckall_any (p : MR) (w : World) (H : p.In w) : Calls Try.prog 39 #[p.val] w fun e w' => e = .returned (.int .i64 (checkAllB p.l)) ∧ Below w.heap.size w w' := by
  obtain ⟨A, cp, l⟩ := p
  obtain ⟨R, O⟩ := H
  simp only at R O
  have HR := Lib.hid R
  have HO := Lib.hid O
  clear R O
  unfold MR.val checkAllB
  simp only
  by_cases h8 : 8 < l.length
  · rw [if_pos h8]
    have j8 : decide ((l.length : Int) > 8) = true := by simp; omega
    go_enter Try.func39, Try.ntmps39
    go_wp2
    go_ret
    exact ⟨rfl, Below.refl _ _⟩
  rw [if_neg h8]
  obtain ⟨G, hG⟩ : ∃ G, firstE checkB l = G := ⟨_, rfl⟩
  rw [hG]
  have HG := Lib.hid hG
  clear hG
  have j8 : decide ((l.length : Int) > 8) = false := by simp; omega
  go_enter Try.func39, Try.ntmps39
  go_wp2
  clear j8
  go_loopw [3] (fun i wr => ∃ j : Nat, i = .int .i64 (j : Int) ∧ j ≤ l.length ∧ Hid (∀ (q : Nat) (x : Mt), q < j → l[q]? = some x → checkB x = 0) ∧ Hid (Below w.heap.size w wr)) (fun i _ => l.length - (intOf i).toNat)
  case atStart => exact ⟨0, rfl, by omega, Lib.hid (fun q x h => by omega), Lib.hid (Below.refl _ _)⟩
  case round =>
    obtain ⟨i, rfl, hi, HJ, K1⟩ := hrel
    by_cases hlt : i < l.length
    · have hkI : (i : Int) < (l.length : Int) := by omega
      have hk0 : (0 : Int) ≤ (i : Int) := by omega
      obtain ⟨m, hm⟩ : ∃ m, l[i]? = some m := ⟨_, List.getElem?_eq_getElem hlt⟩
      obtain ⟨b, o, rfl, hb, hcell⟩ := (HR.out.below (by omega) K1.out).2 (by omega)
      obtain ⟨m0, m1, m2⟩ := mts_get l i m hm
      have c0 := hcell _ _ m0
      have c1 := hcell _ _ m1
      have c2 := hcell _ _ m2
      rw [← Nat.add_assoc] at c1
      rw [show o + (i * 3 + 1 + 1) = o + i * 3 + 2 by omega] at c2
      have HM := Lib.hid hm
      have HOm := Lib.hid (HO.out m (List.mem_of_getElem? hm))
      have HCk := Lib.hid (fun w => rcheck_any m HOm.out w)
      unfold Mt.val mval at HCk
      clear hcell hm m0 m1 m2
      obtain ⟨E, hE⟩ : ∃ E, checkB m = E := ⟨_, rfl⟩
      rw [hE] at HCk
      have HE := Lib.hid hE
      clear hE
      generalize bs m.n = s0 at *
      generalize bs m.v = s1 at *
      generalize m.op = op at *
      by_cases he : E = 0
      · have he' : (E != 0) = false := by simp [he]
        go_wp2_with fail
        refine (HCk.out _).mono ?_
        rintro e w2 ⟨rfl, hb2⟩
        have K3 := Lib.hid (below_then K1.out K1.out.size hb2)
        clear hb2
        go_wp2
        go_roundw
        case rel =>
          refine ⟨i + 1, by go_num, by omega, Lib.hid (fun q x hq hx => ?_), K3⟩
          by_cases hji : q = i
          · subst hji; rw [HM.out] at hx; injection hx with hx; subst hx; rw [HE.out]; exact he
          · exact HJ.out q x (by omega) hx
        case measure => simp [intOf]; omega
      · have he' : (E != 0) = true := by rw [bne_iff_ne]; exact he
        have hv : E = G := by rw [← HE.out]; exact firstE_stop checkB l i m HM.out HJ.out G HG.out (by rw [HE.out]; exact he)
        go_wp2_with fail
        refine (HCk.out _).mono ?_
        rintro e w2 ⟨rfl, hb2⟩
        have K3 := Lib.hid (below_then K1.out K1.out.size hb2)
        clear hb2
        go_wp2
        go_ret
        exact ⟨(by first | rfl | rw [hv]), K3.out⟩
    · have hie : i = l.length := by omega
      have hv : G = 0 := by
        rw [← HG.out]
        refine firstE_zero _ _ (fun x hx => ?_)
        obtain ⟨q, hq⟩ := List.mem_iff_getElem?.1 hx
        exact HJ.out q x (by rw [hie]; exact (List.getElem?_eq_some_iff.1 hq).1) hq
      subst hv
      subst hie
      go_wp2
      go_ret
      exact ⟨rfl, K1.out⟩


/-! ### MatchChecks -/
set_option maxRecDepth 100000 in
theorem checks_far (m : Mt) (p : Value) (A : Option Addr) (n c : Nat) (w : World) (h : 40 < n) (hp : p = .slice A n c) :
    Calls Try.prog 13 #[m.val, p] w fun e w' => e = .returned (.bool true) ∧ Below w.heap.size w w' := by
  subst hp
  have j : decide ((n : Int) > 40) = true := by simp; omega
  unfold Mt.val mval
  generalize bs m.n = mn at *
  generalize bs m.v = mv at *
  generalize m.op = mo at *
  have K1 := Lib.hid ((Below.refl w.heap.size w).alloc (Nat.le_refl _) (.cells #[.string mn, .int .u8 mo, .string mv] 37))
  go_enter Try.func13, Try.ntmps13
  go_wp2_with fail
  refine (awake4 _).mono ?_
  rintro e w4 ⟨rfl, hk⟩
  have K5 := Lib.hid (below_then K1.out K1.out.size hk)
  clear hk
  go_wp2
  go_ret
  exact ⟨rfl, K5.out⟩
set_option maxRecDepth 100000 in
set_option maxHeartbeats 4000000 in
theorem checks_main (m : Mt) (hm : m.Ok) (p : MR) (w : World) (H : p.In w) (h40 : p.l.length ≤ 40) :
    Calls Try.prog 13 #[m.val, p.val] w fun e w' => e = .returned (.bool true) ∧ Below w.heap.size w w' := by
  have j : decide ((p.l.length : Int) > 40) = false := by simp; omega
  have HC := Lib.hid (fun w' => check_any m hm w')
  have HR := Lib.hid (fun w' => rcheck_any m hm w')
  have HA := Lib.hid (fun w' (hb : Below w.heap.size w w') => checkall_any p w' (H.below hb))
  have HB := Lib.hid (fun w' (hb : Below w.heap.size w w') => rcheckall_any p w' (H.below hb))
  clear H h40
  unfold MR.val at *
  generalize checkAllB p.l = EA at *
  unfold Mt.val mval at *
  generalize checkB m = E at *
  generalize bs m.n = mn at *
  generalize bs m.v = mv at *
  generalize m.op = mo at *
  generalize p.l.length = n at *
  generalize p.A = A at *
  generalize p.c = c at *
  have K1 := Lib.hid ((Below.refl w.heap.size w).alloc (Nat.le_refl _) (.cells #[.string mn, .int .u8 mo, .string mv] 37))
  have B1 := Lib.hid (Blk.new w 37 #[.string mn, .int .u8 mo, .string mv])
  go_enter Try.func13, Try.ntmps13
  go_upto_region 3 with fail
  generalize w.alloc (.cells #[.string mn, .int .u8 mo, .string mv] 37) = w1 at *
  obtain ⟨bx, hbx⟩ : ∃ b, w.heap.size = b := ⟨_, rfl⟩
  have BX : Hid (Blk w1 bx 37 #[.string mn, .int .u8 mo, .string mv]) := Lib.hid (by rw [← hbx]; exact B1.out)
  rw [hbx]
  clear hbx B1
  have e0 := fun y : Ext w1.heap.size w1 => (Ext.blk BX.out BX.out.lt (x := y)).cell 0
  have e1 := fun y : Ext w1.heap.size w1 => (Ext.blk BX.out BX.out.lt (x := y)).cell 1
  have e2 := fun y : Ext w1.heap.size w1 => (Ext.blk BX.out BX.out.lt (x := y)).cell 2
  simp only [List.getElem?_toArray, List.getElem?_cons_zero, List.getElem?_cons_succ] at e0 e1 e2
  have HA2 : Hid (∀ x : Ext w1.heap.size w1, Calls Try.prog 38 #[.slice A n c] x.W fun e w' => e = .returned (.int .i64 EA) ∧ Below x.W.heap.size x.W w') := Lib.hid (fun x => HA.out _ (below_then K1.out K1.out.size x.h))
  have HB2 : Hid (∀ x : Ext w1.heap.size w1, Calls Try.prog 39 #[.slice A n c] x.W fun e w' => e = .returned (.int .i64 EA) ∧ Below x.W.heap.size x.W w') := Lib.hid (fun x => HB.out _ (below_then K1.out K1.out.size x.h))
  refine wp_region_exts (by kernel_rfl) (by kernel_rfl) ?_
  repeat
    first
      | go_big_quiet_skip
      | (go_big_quiet_want; go_big_quiet_op
         first
           | go_big_quiet_on
           | (apply Exists.intro
              refine ⟨fun x => ?_, ?_⟩
              · (first
                  | (go_at_call 38; with_reducible exact calls_ext (Nat.le_refl _) (HA2.out x))
                  | (go_at_call 39; with_reducible exact calls_ext (Nat.le_refl _) (HB2.out x))
                  | (go_at_call 31; exact calls_ext (Nat.le_refl _) (HC.out _))
                  | (go_at_call 37; exact calls_ext (Nat.le_refl _) (HR.out _))
                  | (go_at_call 30; exact calls_ext (Nat.le_refl _) (awake4 _)))
              go_big_quiet_on
              try (skip)))
  refine wpQuiet_nil ?_
  rintro _ ⟨x, rfl⟩
  have KX := Lib.hid (below_then K1.out K1.out.size x.h)
  clear e0 e1 e2
  go_wp2
  go_ret
  exact ⟨rfl, KX.out⟩
theorem checks_law (m : Mt) (hm : m.Ok) (A : Option Addr) (c : Nat) (l : List Mt) (w : World) (R : ReadsMt w (fun b => b < w.heap.size) A l) (hl : ∀ p ∈ l, p.Ok) :
    Calls Try.prog 13 #[m.val, .slice A l.length c] w fun e w' => e = .returned (.bool true) ∧ Below w.heap.size w w' := by
  by_cases h : l.length ≤ 40
  · exact checks_main m hm ⟨A, c, l⟩ w ⟨R, hl⟩ h
  · exact checks_far m _ A l.length c w (by omega) rfl
set_option maxRecDepth 100000 in
theorem matchChecks_lifted (os : Os) (started : os.Started) (H : Type) (enc : TypeId × Value → H) :
    ReturnsInHanded {} Try.checked os 13 .any (Rows.matchChecksSpec.pre6 enc Try.prog Try.f13 Rows.matchChecksRow.domain false) (Rows.matchChecksSpec.post enc Try.prog Try.f13 false true false false) := by
  refine returnsInHanded_of_change (C := Try.checked) tOwn started (by kernel_rfl) Try.func13
    (ChangeSpec.witness6 (enc := enc) (C := Try.checked) false ⟨#[], #[.agg #[.string ⟨#[]⟩, .int .u8 0, .string ⟨#[]⟩], .slice none 0 0], []⟩ 8 (by kernel_rfl) (by kernel_rfl) (by kernel_rfl) (by kernel_rfl)) ?_
  intro W base args ds gs before hval0 hW hcnd _
  have hval : ∀ (j : Nat) t v, Try.f13.params[j]? = some t → args[j]? = some v → Value.okWide Try.prog W .any base t v := hval0
  have hW' := hW
  obtain ⟨p, q, hA0, hV, rfl, hfz, hnd⟩ := hW
  have hA : DataW.TrodAll enc Try.prog W 0 (fun _ => true) true Try.f13.params.toList args.toList ds p := hA0
  rw [Try.params13] at hA hval
  obtain ⟨v0, vs0, d0, ds0, p0, q0, hargs, rfl, rfl, h0, r0⟩ := trodAll_cons hA
  obtain ⟨v1, vs1, d1, ds1, p1, q1, rfl, rfl, rfl, h1, r1⟩ := trodAll_cons r0
  obtain ⟨rfl, rfl, rfl⟩ := trodAll_nil r1
  obtain rfl : args = #[v0, v1] := by cases args; simp_all
  obtain ⟨m, rfl, om⟩ := open_matcher (hval 0 37 v0 rfl rfl) h0
  obtain ⟨Al, cl, l, rfl, rl, ol⟩ := open_matchers (hval 1 44 v1 rfl rfl) h1
  refine (checks_law m om Al cl l W rl ol).mono fun e W' ⟨he, hb⟩ => ?_
  subst he
  exact ⟨_, rfl, law_post tLaid (by decide +kernel) hW' rfl (by kernel_rfl) Try.underlying4 rfl hb⟩

/-- The closed facts of the row. -/
theorem matchChecks_facts : joinedFacts Try.pinned.checked.prog 13 Try.f13 Rows.matchChecksSpec Rows.matchChecksRow = true := joined_at 13 Try.f13 Rows.matchChecksSpec Rows.matchChecksRow (by
  intro P hP h1 h2 h3
  unfold joinedFacts
  rw [h1, h2, h3]
  subst hP
  kernel_rfl)
/-- The statement. -/
theorem matchChecks_holds : Rows.MatchChecksSaid :=
  OpenClaim.holds_of_wide 13 Try.f13 rfl rfl rfl rfl rfl rfl rfl ⟨rfl, rfl, rfl, rfl, rfl⟩ rfl rfl rfl rfl rfl (by kernel_rfl) Try.func13 matchChecks_facts
    (of_decide_eq_true (by kernel_rfl)) (by unfold Func.isWrapper; rw [if_neg (of_decide_eq_false (by kernel_rfl))]; exact ⟨rfl, rfl⟩)
    (fun os started H enc _ => matchChecks_lifted os started H enc)
#print axioms matchChecks_holds
end Go.Proofs.Ytnidjfmbbfoheaa
