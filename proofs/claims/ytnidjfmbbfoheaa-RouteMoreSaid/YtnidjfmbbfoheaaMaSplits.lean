/- The statement MatchSplits. Conditions: none. -/
import Derived.Test.YtnidjfmbbfoheaaMaH
namespace Go.Proofs.Ytnidjfmbbfoheaa
set_option linter.unusedVariables false
set_option linter.unusedSimpArgs false
open Go.ChangeShapes Go.WideShapes Go.ChangeAt Go.RowKit Go.Joins Go.Deep Go.BigFrame

set_option maxRecDepth 100000 in
theorem splits_far1 (a : Value) (Aa : Option Addr) (ca : Nat) (n : Nat) (b c : Value) (w : World) (h : 20 < n) (ha : a = .slice Aa n ca) :
    Calls Try.prog 14 #[a, b, c] w fun e w' => e = .returned (.bool true) ∧ Below w.heap.size w w' := by
  subst ha
  have i1 : (20 : Int) < (n : Int) := by omega
  go_enter Try.func14, Try.ntmps14
  go_wp2_with fail
  refine (awake4 _).mono ?_
  rintro e w2 ⟨rfl, hk⟩
  go_wp2
  go_ret
  exact ⟨rfl, hk⟩
set_option maxRecDepth 100000 in
theorem splits_far2 (a : Value) (Aa : Option Addr) (ca : Nat) (n : Nat) (b : Value) (Ab : Option Addr) (cb : Nat) (n2 : Nat) (c : Value) (w : World) (h0 : n ≤ 20) (h : 20 < n2) (ha : a = .slice Aa n ca) (hb : b = .slice Ab n2 cb) :
    Calls Try.prog 14 #[a, b, c] w fun e w' => e = .returned (.bool true) ∧ Below w.heap.size w w' := by
  subst ha hb
  have i0 : ¬ (20 : Int) < (n : Int) := by omega
  have i1 : (20 : Int) < (n2 : Int) := by omega
  go_enter Try.func14, Try.ntmps14
  go_wp2_with fail
  refine (awake4 _).mono ?_
  rintro e w2 ⟨rfl, hk⟩
  go_wp2
  go_ret
  exact ⟨rfl, hk⟩
set_option maxRecDepth 100000 in
theorem splits_dark (Aa : Option Addr) (ca na : Nat) (Ab : Option Addr) (cb nb : Nat) (A0 : Option Addr) (cp : Nat) (l : List Pr) (w : World) (h : lightB l = false) (R : ReadsP w (fun b => b < w.heap.size) A0 l) (hl : ∀ p ∈ l, p.Ok) (ha : na ≤ 20) (hb : nb ≤ 20) :
    Calls Try.prog 14 #[.slice Aa na ca, .slice Ab nb cb, .slice A0 l.length cp] w fun e w' => e = .returned (.bool true) ∧ Below w.heap.size w w' := by
  have HL := Lib.hid (light_any A0 cp l w R hl)
  rw [h] at HL
  have i1 : ¬ (20 : Int) < (na : Int) := by omega
  have i2 : ¬ (20 : Int) < (nb : Int) := by omega
  clear R hl h
  go_enter Try.func14, Try.ntmps14
  go_wp2_with fail
  refine HL.out.mono ?_
  rintro e w1 ⟨rfl, hk⟩
  have K1 := Lib.hid hk
  clear hk
  go_wp2_with fail
  refine (awake4 _).mono ?_
  rintro e w2 ⟨rfl, hk⟩
  have K2 := Lib.hid (below_then K1.out K1.out.size hk)
  clear hk
  go_wp2
  go_ret
  exact ⟨rfl, K2.out⟩
theorem und44c : Try.prog.underlying 44 = some (.slice 37) := by kernel_rfl
theorem info37 : (Try.prog.info? 37).map (fun i => (i.zero, i.size, i.bytes)) = some (some (.agg #[.string ⟨#[]⟩, .int .u8 0, .string ⟨#[]⟩]), 3, 40) := by kernel_rfl
set_option maxRecDepth 100000 in
set_option maxHeartbeats 2000000 in
theorem splits_main (Aa : Option Addr) (ca : Nat) (la : List Mt) (Ab : Option Addr) (cb : Nat) (lb : List Mt) (A0 : Option Addr) (cp : Nat) (l : List Pr) (w : World) (h : lightB l = true) (R : ReadsP w (fun b => b < w.heap.size) A0 l) (hl : ∀ p ∈ l, p.Ok)
    (Ra : ReadsMt w (fun b => b < w.heap.size) Aa la) (oa : ∀ m ∈ la, m.Ok) (Rb : ReadsMt w (fun b => b < w.heap.size) Ab lb) (ob : ∀ m ∈ lb, m.Ok) (ha : la.length ≤ 20) (hb : lb.length ≤ 20) :
    Calls Try.prog 14 #[.slice Aa la.length ca, .slice Ab lb.length cb, .slice A0 l.length cp] w fun e w' => e = .returned (.bool true) ∧ Below w.heap.size w w' := by
  obtain ⟨h40, h200⟩ := light_is h
  have hv : ∀ p ∈ l, p.v.length ≤ 1000000000 := fun p hp => by have := h200 p hp; omega
  have HL := Lib.hid (light_any A0 cp l w R hl)
  rw [h] at HL
  have HA := Lib.hid (fun w' (hb' : Below w.heap.size w w') => all_any Aa ca la A0 cp l w' (by omega) (by omega) (readsMt_below Ra hb') oa (readsP_below R hb') hl hv)
  have HB := Lib.hid (fun w' (hb' : Below w.heap.size w w') => all_any Ab cb lb A0 cp l w' (by omega) (by omega) (readsMt_below Rb hb') ob (readsP_below R hb') hl hv)
  have HN := Lib.hid (fun w' (hb' : Below w.heap.size w w') => all_any none 0 [] A0 cp l w' (by simp) (by omega) (Reads.nil _ _ _ _) (fun m hm => by cases hm) (readsP_below R hb') hl hv)
  have HAB := Lib.hid (fun w' (hb' : Below w.heap.size w w') (A1 : Option Addr) (c1 : Nat) (R1 : ReadsMt w' (fun b => b < w'.heap.size) A1 (la ++ lb)) => all_any A1 c1 (la ++ lb) A0 cp l w' (by simp; omega) (by omega) R1 (fun m hm => by rcases List.mem_append.1 hm with hm | hm; exact oa m hm; exact ob m hm) (readsP_below R hb') hl hv)
  have e1 : allB (la ++ lb) l = (allB la l && allB lb l) := by unfold allB; rw [List.all_append]
  have e2 : allB [] l = true := rfl
  rw [e2] at HN
  rw [e1] at HAB
  have RA := Lib.hid Ra
  have RB := Lib.hid Rb
  have i1 : ¬ (20 : Int) < (la.length : Int) := by omega
  have i2 : ¬ (20 : Int) < (lb.length : Int) := by omega
  clear R hl h Ra oa Rb ob h200 hv e1 e2
  generalize allB la l = P1 at *
  generalize allB lb l = P2 at *
  go_enter Try.func14, Try.ntmps14
  go_wp2_with fail
  refine HL.out.mono ?_
  rintro e w1 ⟨rfl, hk⟩
  have K1 := Lib.hid hk
  clear hk
  have K2 := Lib.hid (K1.out.alloc K1.out.size (.cells #[] 37))
  have O2 := Lib.hid (World.ownsRow_lit (base := w.heap.size) (e := 37) (size := 3) w1 #[] 0 K1.out.size (by decide) rfl)
  go_wp2_with (first
    | (at_builtin
       refine app_reads w.heap.size rfl (.tmp 22) (.tmp 23) 44 37 _ 3 40 rfl und44c info37 rfl (by decide) _ 0 [] rfl (fun b => b < w.heap.size) Aa la.length ca (mts la) rfl (RA.out.below (by omega) K2.out) (mts_one la) O2.out K2.out.size (by omega) (by omega) ?_
       intro v1 w2 hO3 hG3 hat3
       have O3 : Hid (w2.ownsRow w.heap.size 37 3 v1 la.length (mts la)) := Lib.hid (by simpa using hO3)
       have K3 := Lib.hid (K2.out.trans (below_of_grown (B := w.heap.size) K2.out.size hG3 (own_base O2.out)))
       clear hO3 hG3 hat3)
    | (at_builtin
       refine app_reads w.heap.size rfl (.tmp 24) (.tmp 25) 44 37 _ 3 40 rfl und44c info37 rfl (by decide) _ la.length (mts la) rfl (fun b => b < w.heap.size) Ab lb.length cb (mts lb) rfl (RB.out.below (by omega) K3.out) (mts_one lb) O3.out K3.out.size (by omega) (by omega) ?_
       intro v2 w3 hO4 hG4 hat4
       have K4 := Lib.hid (K3.out.trans (below_of_grown (B := w.heap.size) K3.out.size hG4 (own_base O3.out)))
       obtain ⟨A4, c4, rfl, R4⟩ := Reads.of_own hO4
       have R5 : Hid (ReadsMt w3 (fun b => b < w3.heap.size) A4 (la ++ lb)) := Lib.hid (by
         have := R4.imp (fun b hb => own_lt hO4 b hb)
         unfold ReadsMt
         rw [mts_app, List.length_append]
         exact this)
       clear hO4 hG4 hat4 R4))
  rw [← List.length_append]
  have H5 := Lib.hid (HAB.out w3 K4.out A4 c4 R5.out)
  refine H5.out.mono ?_
  rintro e w4 ⟨rfl, hk⟩
  have K5 := Lib.hid (below_then K4.out K4.out.size hk)
  clear hk
  go_wp2_with fail
  refine (HA.out _ K5.out).mono ?_
  rintro e w5 ⟨rfl, hk⟩
  have K6 := Lib.hid (below_then K5.out K5.out.size hk)
  clear hk
  cases P1
  · go_wp2_with fail
    refine (HN.out _ K6.out).mono ?_
    rintro e w6 ⟨rfl, hk⟩
    have K7 := Lib.hid (below_then K6.out K6.out.size hk)
    clear hk
    go_wp2_with fail
    refine (awake4 _).mono ?_
    rintro e w7 ⟨rfl, hk⟩
    have K8 := Lib.hid (below_then K7.out K7.out.size hk)
    clear hk
    go_wp2
    go_ret
    exact ⟨rfl, K8.out⟩
  · cases P2
    all_goals
      go_wp2_with fail
      refine (HB.out _ K6.out).mono ?_
      rintro e w6 ⟨rfl, hk⟩
      have K7 := Lib.hid (below_then K6.out K6.out.size hk)
      clear hk
      go_wp2_with fail
      refine (HN.out _ K7.out).mono ?_
      rintro e w7 ⟨rfl, hk⟩
      have K8 := Lib.hid (below_then K7.out K7.out.size hk)
      clear hk
      go_wp2_with fail
      refine (awake4 _).mono ?_
      rintro e w8 ⟨rfl, hk⟩
      have K9 := Lib.hid (below_then K8.out K8.out.size hk)
      clear hk
      go_wp2
      go_ret
      exact ⟨rfl, K9.out⟩
theorem splits_law (Aa : Option Addr) (ca : Nat) (la : List Mt) (Ab : Option Addr) (cb : Nat) (lb : List Mt) (A0 : Option Addr) (cp : Nat) (l : List Pr) (w : World) (R : ReadsP w (fun b => b < w.heap.size) A0 l) (hl : ∀ p ∈ l, p.Ok)
    (Ra : ReadsMt w (fun b => b < w.heap.size) Aa la) (oa : ∀ m ∈ la, m.Ok) (Rb : ReadsMt w (fun b => b < w.heap.size) Ab lb) (ob : ∀ m ∈ lb, m.Ok) :
    Calls Try.prog 14 #[.slice Aa la.length ca, .slice Ab lb.length cb, .slice A0 l.length cp] w fun e w' => e = .returned (.bool true) ∧ Below w.heap.size w w' := by
  by_cases ha : la.length ≤ 20
  · by_cases hb : lb.length ≤ 20
    · cases h : lightB l with
      | false => exact splits_dark Aa ca _ Ab cb _ A0 cp l w h R hl ha hb
      | true => exact splits_main Aa ca la Ab cb lb A0 cp l w h R hl Ra oa Rb ob ha hb
    · exact splits_far2 _ Aa ca _ _ Ab cb _ _ w ha (by omega) rfl rfl
  · exact splits_far1 _ Aa ca _ _ _ w (by omega) rfl
set_option maxRecDepth 100000 in
theorem matchSplits_lifted (os : Os) (started : os.Started) (H : Type) (enc : TypeId × Value → H) :
    ReturnsInHanded {} Try.checked os 14 .any (Rows.matchSplitsSpec.pre6 enc Try.prog Try.f14 Rows.matchSplitsRow.domain false) (Rows.matchSplitsSpec.post enc Try.prog Try.f14 false true false false) := by
  refine returnsInHanded_of_change (C := Try.checked) tOwn started (by kernel_rfl) Try.func14
    (ChangeSpec.witness6 (enc := enc) (C := Try.checked) false ⟨#[], #[.slice none 0 0, .slice none 0 0, .slice none 0 0], []⟩ 8 (by kernel_rfl) (by kernel_rfl) (by kernel_rfl) (by kernel_rfl)) ?_
  intro W base args ds gs before hval0 hW hcnd _
  have hval : ∀ (j : Nat) t v, Try.f14.params[j]? = some t → args[j]? = some v → Value.okWide Try.prog W .any base t v := hval0
  have hW' := hW
  obtain ⟨p, q, hA0, hV, rfl, hfz, hnd⟩ := hW
  have hA : DataW.TrodAll enc Try.prog W 0 (fun _ => true) true Try.f14.params.toList args.toList ds p := hA0
  rw [Try.params14] at hA hval
  obtain ⟨v0, vs0, d0, ds0, p0, q0, hargs, rfl, rfl, h0, r0⟩ := trodAll_cons hA
  obtain ⟨v1, vs1, d1, ds1, p1, q1, rfl, rfl, rfl, h1, r1⟩ := trodAll_cons r0
  obtain ⟨v2, vs2, d2, ds2, p2, q2, rfl, rfl, rfl, h2, r2⟩ := trodAll_cons r1
  obtain ⟨rfl, rfl, rfl⟩ := trodAll_nil r2
  obtain rfl : args = #[v0, v1, v2] := by cases args; simp_all
  obtain ⟨Aa, ca, a, rfl, ra, oa⟩ := open_matchers (hval 0 44 v0 rfl rfl) h0
  obtain ⟨Ab, cb, b, rfl, rb, ob⟩ := open_matchers (hval 1 44 v1 rfl rfl) h1
  obtain ⟨Al, cl, l, rfl, rl, ol⟩ := open_pairs (hval 2 38 v2 rfl rfl) h2
  refine (splits_law Aa ca a Ab cb b Al cl l W rl ol ra oa rb ob).mono fun e W' ⟨he, hb⟩ => ?_
  subst he
  exact ⟨_, rfl, law_post tLaid (by decide +kernel) hW' rfl (by kernel_rfl) Try.underlying4 rfl hb⟩

/-- The closed facts of the row. -/
theorem matchSplits_facts : joinedFacts Try.pinned.checked.prog 14 Try.f14 Rows.matchSplitsSpec Rows.matchSplitsRow = true := joined_at 14 Try.f14 Rows.matchSplitsSpec Rows.matchSplitsRow (by
  intro P hP h1 h2 h3
  unfold joinedFacts
  rw [h1, h2, h3]
  subst hP
  kernel_rfl)
/-- The statement. -/
theorem matchSplits_holds : Rows.MatchSplitsSaid :=
  OpenClaim.holds_of_wide 14 Try.f14 rfl rfl rfl rfl rfl rfl rfl ⟨rfl, rfl, rfl, rfl, rfl⟩ rfl rfl rfl rfl rfl (by kernel_rfl) Try.func14 matchSplits_facts
    (of_decide_eq_true (by kernel_rfl)) (by unfold Func.isWrapper; rw [if_neg (of_decide_eq_false (by kernel_rfl))]; exact ⟨rfl, rfl⟩)
    (fun os started H enc _ => matchSplits_lifted os started H enc)
#print axioms matchSplits_holds
end Go.Proofs.Ytnidjfmbbfoheaa
