/- The statement MatchNot. Conditions: none. -/
import Derived.Test.YtnidjfmbbfoheaaMaG
import Derived.Test.YtnidjfmbbfoheaaCq
namespace Go.Proofs.Ytnidjfmbbfoheaa
set_option linter.unusedVariables false
set_option linter.unusedSimpArgs false
open Go.ChangeShapes Go.WideShapes Go.ChangeAt Go.RowKit Go.Joins Go.Deep Go.BigFrame

theorem light_is {l : List Pr} (h : lightB l = true) : l.length ≤ 40 ∧ ∀ p ∈ l, p.v.length ≤ 200 := by
  unfold lightB at h
  rw [Bool.and_eq_true, decide_eq_true_eq, List.all_eq_true] at h
  exact ⟨h.1, fun p hp => by simpa using h.2 p hp⟩
theorem readsP_below {w w' : World} {A0 : Option Addr} {l : List Pr} (R : ReadsP w (fun b => b < w.heap.size) A0 l) (hb : Below w.heap.size w w') : ReadsP w' (fun b => b < w'.heap.size) A0 l :=
  (R.below (by omega) hb).imp (fun b hb' => Nat.lt_of_lt_of_le hb' hb.size)
theorem readsMt_below {w w' : World} {A0 : Option Addr} {l : List Mt} (R : ReadsMt w (fun b => b < w.heap.size) A0 l) (hb : Below w.heap.size w w') : ReadsMt w' (fun b => b < w'.heap.size) A0 l :=
  (R.below (by omega) hb).imp (fun b hb' => Nat.lt_of_lt_of_le hb' hb.size)
set_option maxRecDepth 100000 in
theorem not_dark (m : Mt) (A0 : Option Addr) (cp : Nat) (l : List Pr) (w : World) (h : lightB l = false) (R : ReadsP w (fun b => b < w.heap.size) A0 l) (hl : ∀ p ∈ l, p.Ok) :
    Calls Try.prog 9 #[m.val, .slice A0 l.length cp] w fun e w' => e = .returned (.bool true) ∧ Below w.heap.size w w' := by
  have HL := Lib.hid (fun w' (hb : Below w.heap.size w w') => light_any A0 cp l w' (readsP_below R hb) hl)
  rw [h] at HL
  clear R hl h
  unfold Mt.val mval
  generalize bs m.n = mn at *
  generalize bs m.v = mv at *
  generalize m.op = mo at *
  have K1 := Lib.hid ((Below.refl w.heap.size w).alloc (Nat.le_refl _) (.cells #[.string mn, .int .u8 mo, .string mv] 37))
  go_enter Try.func9, Try.ntmps9
  go_wp2_with fail
  refine (HL.out _ K1.out).mono ?_
  rintro e w1 ⟨rfl, hk⟩
  have K2 := Lib.hid (below_then K1.out K1.out.size hk)
  clear hk
  go_wp2_with fail
  refine (awake4 _).mono ?_
  rintro e w2 ⟨rfl, hk⟩
  have K3 := Lib.hid (below_then K2.out K2.out.size hk)
  clear hk
  go_wp2
  go_ret
  exact ⟨rfl, K3.out⟩
def flip (m : Mt) (o : Int) : Mt := ⟨m.n, m.v, o⟩
theorem flip_check {m : Mt} {o : Int} (h : checkB m = 0) (h3 : o ≤ 3) (h2 : o < 2 ↔ m.op < 2) : checkB (flip m o) = 0 := by
  obtain ⟨a, b, c⟩ := checkB_op h
  unfold checkB flip at *
  simp only at *
  by_cases d : m.op < 2
  · rw [if_neg (by rw [a]; simp), if_neg (by omega), if_neg (by omega), if_pos (h2.2 d)]
  · rw [if_neg (by rw [a]; simp), if_neg (by omega), if_neg (by omega), if_neg d] at h
    rw [if_neg (by rw [a]; simp), if_neg (by omega), if_neg (by omega), if_neg (fun hh => d (h2.1 hh))]
    exact h
theorem flip_one {m : Mt} {o : Int} (l : List Pr) (h : checkB m = 0) (h3 : o ≤ 3) (h2 : o < 2 ↔ m.op < 2) (h0 : decide (o = 0) = !decide (m.op = 0) ∨ ¬ m.op < 2) (h4 : decide (o = 2) = !decide (m.op = 2) ∨ m.op < 2) : oneB (flip m o) l = !oneB m l := by
  have hf := flip_check h h3 h2
  have e1 : oneB (flip m o) l = if o < 2 then (decide (getB l m.n = m.v) == decide (o = 0)) else ((Rx.like m.v (getB l m.n) == some true) == decide (o = 2)) := by
    unfold oneB
    rw [if_neg (by rw [hf]; simp)]
    rfl
  have e2 : oneB m l = if m.op < 2 then (decide (getB l m.n = m.v) == decide (m.op = 0)) else ((Rx.like m.v (getB l m.n) == some true) == decide (m.op = 2)) := by
    unfold oneB
    rw [if_neg (by rw [h]; simp)]
  rw [e1, e2]
  by_cases d : m.op < 2
  · rw [if_pos (h2.2 d), if_pos d]
    rcases h0 with h0 | h0
    · rw [h0]; cases decide (getB l m.n = m.v) <;> cases decide (m.op = 0) <;> rfl
    · exact absurd d h0
  · rw [if_neg (fun hh => d (h2.1 hh)), if_neg d]
    rcases h4 with h4 | h4
    · rw [h4]; cases (Rx.like m.v (getB l m.n) == some true) <;> cases decide (m.op = 2) <;> rfl
    · exact absurd h4 d
set_option maxRecDepth 100000 in
set_option maxHeartbeats 2000000 in
theorem not_bad (m : Mt) (hm : m.Ok) (A0 : Option Addr) (cp : Nat) (l : List Pr) (w : World) (h : lightB l = true) (hc : checkB m ≠ 0) (R : ReadsP w (fun b => b < w.heap.size) A0 l) (hl : ∀ p ∈ l, p.Ok) :
    Calls Try.prog 9 #[m.val, .slice A0 l.length cp] w fun e w' => e = .returned (.bool true) ∧ Below w.heap.size w w' := by
  obtain ⟨h40, h200⟩ := light_is h
  have HL := Lib.hid (fun w' (hb : Below w.heap.size w w') => light_any A0 cp l w' (readsP_below R hb) hl)
  rw [h] at HL
  have HO := Lib.hid (fun w' (hb : Below w.heap.size w w') => mone_any A0 cp l m w' hm (by omega) (readsP_below R hb) hl (fun p hp => by have := h200 p hp; omega))
  have e : oneB m l = false := by unfold oneB; rw [if_pos hc]
  rw [e] at HO
  have HC := Lib.hid (fun w' => check_any m hm w')
  have hz : (checkB m != 0) = true := by rw [bne_iff_ne]; exact hc
  clear R hl h h200 e hc
  unfold Mt.val mval at *
  generalize checkB m = E at *
  generalize bs m.n = mn at *
  generalize bs m.v = mv at *
  generalize m.op = mo at *
  have K1 := Lib.hid ((Below.refl w.heap.size w).alloc (Nat.le_refl _) (.cells #[.string mn, .int .u8 mo, .string mv] 37))
  have B1 := Lib.hid (Blk.new w 37 #[.string mn, .int .u8 mo, .string mv])
  go_enter Try.func9, Try.ntmps9
  go_wp2_with fail
  refine (HL.out _ K1.out).mono ?_
  rintro e w1 ⟨rfl, hk⟩
  have K2 := Lib.hid (below_then K1.out K1.out.size hk)
  have B2 := Lib.hid (B1.out.below hk B1.out.lt)
  clear hk
  have y0 := B2.out.cell 0
  have y1 := B2.out.cell 1
  have y2 := B2.out.cell 2
  simp only [List.getElem?_toArray, List.getElem?_cons_zero, List.getElem?_cons_succ] at y0 y1 y2
  have l2 := B2.out.lt
  go_wp2_with fail
  refine (HC.out _).mono ?_
  rintro e w2 ⟨rfl, hk⟩
  have K3 := Lib.hid (below_then (K2.out.alloc K2.out.size (.cells #[.string mn, .int .u8 (bits BinOp.xor IntKind.u8 mo 1), .string mv] 37)) (K2.out.alloc K2.out.size _).size hk)
  have B3 := Lib.hid ((B2.out.alloc (.cells #[.string mn, .int .u8 (bits BinOp.xor IntKind.u8 mo 1), .string mv] 37)).below hk (B2.out.alloc _).lt)
  clear hk y0 y1 y2
  have y0 := B3.out.cell 0
  have y1 := B3.out.cell 1
  have y2 := B3.out.cell 2
  simp only [List.getElem?_toArray, List.getElem?_cons_zero, List.getElem?_cons_succ] at y0 y1 y2
  go_wp2_with fail
  refine (HO.out _ K3.out).mono ?_
  rintro e w3 ⟨rfl, hk⟩
  have K4 := Lib.hid (below_then K3.out K3.out.size hk)
  clear hk
  go_wp2_with fail
  refine (awake4 _).mono ?_
  rintro e w4 ⟨rfl, hk⟩
  have K5 := Lib.hid (below_then K4.out K4.out.size hk)
  clear hk
  go_wp2
  go_ret
  exact ⟨rfl, K5.out⟩
set_option maxRecDepth 100000 in
set_option maxHeartbeats 4000000 in
theorem not_good (m : Mt) (hm : m.Ok) (o : Int) (ho : bits BinOp.xor IntKind.u8 m.op 1 = o) (o0 : 0 ≤ o) (o3 : o ≤ 3) (A0 : Option Addr) (cp : Nat) (l : List Pr) (w : World) (h : lightB l = true) (hc : checkB m = 0) (hcf : checkB (flip m o) = 0) (hof : oneB (flip m o) l = !oneB m l) (R : ReadsP w (fun b => b < w.heap.size) A0 l) (hl : ∀ p ∈ l, p.Ok) :
    Calls Try.prog 9 #[m.val, .slice A0 l.length cp] w fun e w' => e = .returned (.bool true) ∧ Below w.heap.size w w' := by
  obtain ⟨h40, h200⟩ := light_is h
  have hfo : (flip m o).Ok := ⟨hm.1, hm.2.1, hm.2.2.1, hm.2.2.2.1, o0, by show o ≤ 255; omega⟩
  have HL := Lib.hid (fun w' (hb : Below w.heap.size w w') => light_any A0 cp l w' (readsP_below R hb) hl)
  rw [h] at HL
  have HO := Lib.hid (fun w' (hb : Below w.heap.size w w') => mone_any A0 cp l m w' hm (by omega) (readsP_below R hb) hl (fun p hp => by have := h200 p hp; omega))
  have HF := Lib.hid (fun w' (hb : Below w.heap.size w w') => mone_any A0 cp l (flip m o) w' hfo (by omega) (readsP_below R hb) hl (fun p hp => by have := h200 p hp; omega))
  rw [hof] at HF
  have HC := Lib.hid (fun w' => check_any m hm w')
  have HCF := Lib.hid (fun w' => check_any (flip m o) hfo w')
  rw [hc] at HC
  rw [hcf] at HCF
  clear R hl h h200 hc hcf hof hfo
  unfold Mt.val mval flip at *
  simp only at HCF HF
  generalize oneB m l = Q at *
  generalize bs m.n = mn at *
  generalize bs m.v = mv at *
  generalize m.op = mo at *
  have K1 := Lib.hid ((Below.refl w.heap.size w).alloc (Nat.le_refl _) (.cells #[.string mn, .int .u8 mo, .string mv] 37))
  have B1 := Lib.hid (Blk.new w 37 #[.string mn, .int .u8 mo, .string mv])
  go_enter Try.func9, Try.ntmps9
  go_wp2_with fail
  refine (HL.out _ K1.out).mono ?_
  rintro e w1 ⟨rfl, hk⟩
  have K2 := Lib.hid (below_then K1.out K1.out.size hk)
  have B2 := Lib.hid (B1.out.below hk B1.out.lt)
  clear hk
  have y0 := B2.out.cell 0
  have y1 := B2.out.cell 1
  have y2 := B2.out.cell 2
  simp only [List.getElem?_toArray, List.getElem?_cons_zero, List.getElem?_cons_succ] at y0 y1 y2
  have l2 := B2.out.lt
  go_wp2_with fail
  refine (HC.out _).mono ?_
  rintro e w2 ⟨rfl, hk⟩
  have K3 := Lib.hid (below_then (K2.out.alloc K2.out.size (.cells #[.string mn, .int .u8 o, .string mv] 37)) (K2.out.alloc K2.out.size _).size hk)
  have B3 := Lib.hid ((B2.out.alloc (.cells #[.string mn, .int .u8 o, .string mv] 37)).below hk (B2.out.alloc _).lt)
  have C3 := Lib.hid ((Blk.new w1 37 #[.string mn, .int .u8 o, .string mv]).below hk (Blk.new w1 37 _).lt)
  clear hk y0 y1 y2
  go_wp2_with fail
  have e0 := fun y : Ext w2.heap.size w2 => (Ext.blk B3.out B3.out.lt (x := y)).cell 0
  have e1 := fun y : Ext w2.heap.size w2 => (Ext.blk B3.out B3.out.lt (x := y)).cell 1
  have e2 := fun y : Ext w2.heap.size w2 => (Ext.blk B3.out B3.out.lt (x := y)).cell 2
  have f0 := fun y : Ext w2.heap.size w2 => (Ext.blk C3.out C3.out.lt (x := y)).cell 0
  have f1 := fun y : Ext w2.heap.size w2 => (Ext.blk C3.out C3.out.lt (x := y)).cell 1
  have f2 := fun y : Ext w2.heap.size w2 => (Ext.blk C3.out C3.out.lt (x := y)).cell 2
  simp only [List.getElem?_toArray, List.getElem?_cons_zero, List.getElem?_cons_succ] at e0 e1 e2 f0 f1 f2
  have HO2 : Hid (∀ x : Ext w2.heap.size w2, Calls Try.prog 32 #[.agg #[.string mn, .int .u8 mo, .string mv], .slice A0 l.length cp] x.W fun e w' => e = .returned (.bool Q) ∧ Below x.W.heap.size x.W w') := Lib.hid (fun x => HO.out _ (below_then K3.out K3.out.size x.h))
  have HF2 : Hid (∀ x : Ext w2.heap.size w2, Calls Try.prog 32 #[.agg #[.string mn, .int .u8 o, .string mv], .slice A0 l.length cp] x.W fun e w' => e = .returned (.bool !Q) ∧ Below x.W.heap.size x.W w') := Lib.hid (fun x => HF.out _ (below_then K3.out K3.out.size x.h))
  cases Q
  all_goals
    refine wp_region_exts (by kernel_rfl) (by kernel_rfl) ?_
    repeat
      first
        | go_big_quiet_skip
        | (go_big_quiet_want; go_big_quiet_op
           first
             | go_big_quiet_on
             | (apply Exists.intro
                refine ⟨fun x => ?_, ?_⟩
                · (first
                    | (go_at_call 32; with_reducible exact calls_ext (Nat.le_refl _) (HO2.out x))
                    | (go_at_call 32; with_reducible exact calls_ext (Nat.le_refl _) (HF2.out x))
                    | (go_at_call 31; exact calls_ext (Nat.le_refl _) (HCF.out _))
                    | (go_at_call 30; exact calls_ext (Nat.le_refl _) (awake4 _)))
                go_big_quiet_on
                try (skip)))
    refine wpQuiet_nil ?_
    rintro _ ⟨x, rfl⟩
    have KX := Lib.hid (below_then K3.out K3.out.size x.h)
    clear e0 e1 e2 f0 f1 f2
    go_wp2
    go_ret
    exact ⟨rfl, KX.out⟩
theorem not_law (m : Mt) (hm : m.Ok) (A0 : Option Addr) (cp : Nat) (l : List Pr) (w : World) (R : ReadsP w (fun b => b < w.heap.size) A0 l) (hl : ∀ p ∈ l, p.Ok) :
    Calls Try.prog 9 #[m.val, .slice A0 l.length cp] w fun e w' => e = .returned (.bool true) ∧ Below w.heap.size w w' := by
  cases h : lightB l with
  | false => exact not_dark m A0 cp l w h R hl
  | true =>
    by_cases hc : checkB m = 0
    · obtain ⟨_, ho3, _⟩ := checkB_op hc
      have ho0 := hm.2.2.2.2.1
      have hop : m.op = 0 ∨ m.op = 1 ∨ m.op = 2 ∨ m.op = 3 := by omega
      rcases hop with e | e | e | e
      · exact not_good m hm 1 (by rw [e]; rfl) (by decide) (by decide) A0 cp l w h hc (flip_check hc (by decide) (by rw [e]; decide)) (flip_one l hc (by decide) (by rw [e]; decide) (.inl (by rw [e]; rfl)) (.inr (by rw [e]; decide))) R hl
      · exact not_good m hm 0 (by rw [e]; rfl) (by decide) (by decide) A0 cp l w h hc (flip_check hc (by decide) (by rw [e]; decide)) (flip_one l hc (by decide) (by rw [e]; decide) (.inl (by rw [e]; rfl)) (.inr (by rw [e]; decide))) R hl
      · exact not_good m hm 3 (by rw [e]; rfl) (by decide) (by decide) A0 cp l w h hc (flip_check hc (by decide) (by rw [e]; decide)) (flip_one l hc (by decide) (by rw [e]; decide) (.inr (by rw [e]; decide)) (.inl (by rw [e]; rfl))) R hl
      · exact not_good m hm 2 (by rw [e]; rfl) (by decide) (by decide) A0 cp l w h hc (flip_check hc (by decide) (by rw [e]; decide)) (flip_one l hc (by decide) (by rw [e]; decide) (.inr (by rw [e]; decide)) (.inl (by rw [e]; rfl))) R hl
    · exact not_bad m hm A0 cp l w h hc R hl
set_option maxRecDepth 100000 in
theorem matchNot_lifted (os : Os) (started : os.Started) (H : Type) (enc : TypeId × Value → H) :
    ReturnsInHanded {} Try.checked os 9 .any (Rows.matchNotSpec.pre6 enc Try.prog Try.f9 Rows.matchNotRow.domain false) (Rows.matchNotSpec.post enc Try.prog Try.f9 false true false false) := by
  refine returnsInHanded_of_change (C := Try.checked) tOwn started (by kernel_rfl) Try.func9
    (ChangeSpec.witness6 (enc := enc) (C := Try.checked) false ⟨#[], #[.agg #[.string ⟨#[]⟩, .int .u8 0, .string ⟨#[]⟩], .slice none 0 0], []⟩ 8 (by kernel_rfl) (by kernel_rfl) (by kernel_rfl) (by kernel_rfl)) ?_
  intro W base args ds gs before hval0 hW hcnd _
  have hval : ∀ (j : Nat) t v, Try.f9.params[j]? = some t → args[j]? = some v → Value.okWide Try.prog W .any base t v := hval0
  have hW' := hW
  obtain ⟨p, q, hA0, hV, rfl, hfz, hnd⟩ := hW
  have hA : DataW.TrodAll enc Try.prog W 0 (fun _ => true) true Try.f9.params.toList args.toList ds p := hA0
  rw [Try.params9] at hA hval
  obtain ⟨v0, vs0, d0, ds0, p0, q0, hargs, rfl, rfl, h0, r0⟩ := trodAll_cons hA
  obtain ⟨v1, vs1, d1, ds1, p1, q1, rfl, rfl, rfl, h1, r1⟩ := trodAll_cons r0
  obtain ⟨rfl, rfl, rfl⟩ := trodAll_nil r1
  obtain rfl : args = #[v0, v1] := by cases args; simp_all
  obtain ⟨m, rfl, om⟩ := open_matcher (hval 0 37 v0 rfl rfl) h0
  obtain ⟨Al, cl, l, rfl, rl, ol⟩ := open_pairs (hval 1 38 v1 rfl rfl) h1
  refine (not_law m om Al cl l W rl ol).mono fun e W' ⟨he, hb⟩ => ?_
  subst he
  exact ⟨_, rfl, law_post tLaid (by decide +kernel) hW' rfl (by kernel_rfl) Try.underlying4 rfl hb⟩

/-- The closed facts of the row. -/
theorem matchNot_facts : joinedFacts Try.pinned.checked.prog 9 Try.f9 Rows.matchNotSpec Rows.matchNotRow = true := joined_at 9 Try.f9 Rows.matchNotSpec Rows.matchNotRow (by
  intro P hP h1 h2 h3
  unfold joinedFacts
  rw [h1, h2, h3]
  subst hP
  kernel_rfl)
/-- The statement. -/
theorem matchNot_holds : Rows.MatchNotSaid :=
  OpenClaim.holds_of_wide 9 Try.f9 rfl rfl rfl rfl rfl rfl rfl ⟨rfl, rfl, rfl, rfl, rfl⟩ rfl rfl rfl rfl rfl (by kernel_rfl) Try.func9 matchNot_facts
    (of_decide_eq_true (by kernel_rfl)) (by unfold Func.isWrapper; rw [if_neg (of_decide_eq_false (by kernel_rfl))]; exact ⟨rfl, rfl⟩)
    (fun os started H enc _ => matchNot_lifted os started H enc)
#print axioms matchNot_holds
end Go.Proofs.Ytnidjfmbbfoheaa
