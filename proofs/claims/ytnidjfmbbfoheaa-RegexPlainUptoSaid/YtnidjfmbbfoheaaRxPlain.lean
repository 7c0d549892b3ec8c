/- The statement RegexPlain, its second form: what comes in is of bulk at most 1048576. -/
import Derived.Test.YtnidjfmbbfoheaaRxPl
import Derived.Test.YtnidjfmbbfoheaaRxBoth
import Derived.Test.YtnidjfmbbfoheaaMaD
import Derived.JoinedCond
namespace Go.Proofs.Ytnidjfmbbfoheaa
set_option linter.unusedVariables false
set_option linter.unusedSimpArgs false
open Go.ChangeShapes Go.WideShapes Go.ChangeAt Go.RowKit Go.Joins Go.Deep

set_option maxRecDepth 100000 in
theorem plain_far (s t : List Nat) (w : World) (ht : 200 < t.length) : Calls Try.prog 4 #[.string (bs s), .string (bs t)] w fun e w' => e = .returned (.bool true) ∧ Below w.heap.size w w' := by
  have z := bs_size t
  have i1 : (200 : Int) < (t.length : Int) := by omega
  generalize bs s = b1 at *
  generalize bs t = b2 at *
  go_enter Try.func4, Try.ntmps4
  go_wp2_with fail
  refine (awake_any _).mono ?_
  rintro e w1 ⟨rfl, hk⟩
  have K1 := Lib.hid hk
  clear hk
  go_wp2
  go_ret
  exact ⟨rfl, K1.out⟩
set_option maxRecDepth 100000 in
set_option maxHeartbeats 4000000 in
theorem plain_near (s t : List Nat) (hs : ∀ x ∈ s, x < 256) (ht : ∀ x ∈ t, x < 256) (ls : s.length ≤ 1048576) (w : World) (lt : t.length ≤ 200) : Calls Try.prog 4 #[.string (bs s), .string (bs t)] w fun e w' => e = .returned (.bool true) ∧ Below w.heap.size w w' := by
  have z := bs_size t
  have i1 : ¬ (200 : Int) < (t.length : Int) := by omega
  have HQ := Lib.hid (fun w => quote_any s hs (by omega) w)
  have hq : ∀ x ∈ quoteA s, x < 256 := by
    intro x hx
    unfold quoteA at hx
    rw [List.mem_flatMap] at hx
    obtain ⟨c, hc, hx⟩ := hx
    unfold quo at hx
    split at hx
    · simp only [List.mem_cons, List.not_mem_nil, or_false] at hx
      rcases hx with rfl | rfl
      · decide
      · exact hs x hc
    · rw [List.mem_singleton] at hx; subst hx; exact hs x hc
  have hql := quoteA_len s
  have H1 := Lib.hid (fun w => like_any (quoteA s) s hq (by omega) hs (by omega) w)
  have H2 := Lib.hid (fun w => like_any (quoteA s) t hq (by omega) ht (by omega) w)
  have zq := bs_size (quoteA s)
  have hcmp := bs_beq hs ht
  by_cases h : 64 < (quoteA s).length
  · have i2 : (64 : Int) < ((quoteA s).length : Int) := by omega
    simp only [likeVal_far _ h] at H1 H2
    clear hcmp hs ht hq h
    generalize (quoteA s).length = ql at *
    generalize bs (quoteA s) = bq at *
    generalize bs s = b1 at *
    generalize bs t = b2 at *
    go_enter Try.func4, Try.ntmps4
    go_wp2_with fail
    refine (HQ.out _).mono ?_
    rintro e w1 ⟨rfl, hk⟩
    have K1 := Lib.hid hk
    clear hk
    go_wp2_with fail
    refine (H1.out _).mono ?_
    rintro e w2 ⟨rfl, hk⟩
    have K2 := Lib.hid (below_then K1.out K1.out.size hk)
    clear hk
    go_wp2_with fail
    refine (H2.out _).mono ?_
    rintro e w3 ⟨rfl, hk⟩
    have K3 := Lib.hid (below_then K2.out K2.out.size hk)
    clear hk
    go_wp2_with fail
    refine (awake_any _).mono ?_
    rintro e w4 ⟨rfl, hk⟩
    have K4 := Lib.hid (below_then K3.out K3.out.size hk)
    clear hk
    go_wp2
    go_ret
    exact ⟨rfl, K4.out⟩
  · have i2 : ¬ (64 : Int) < ((quoteA s).length : Int) := by omega
    simp only [like_read (Rx.read_quote s) (show (quoteA s).length ≤ 64 by omega), Rx.match_quote s _ hs, decide_true] at H1 H2
    have hd : decide (t = s) = decide (s = t) := by rw [decide_eq_decide]; exact eq_comm
    rw [hd] at H2
    clear hs ht hq h hd
    generalize decide (s = t) = D at *
    generalize (quoteA s).length = ql at *
    generalize bs (quoteA s) = bq at *
    generalize bs s = b1 at *
    generalize bs t = b2 at *
    cases D
    all_goals
      go_enter Try.func4, Try.ntmps4
      go_wp2_with fail
      refine (HQ.out _).mono ?_
      rintro e w1 ⟨rfl, hk⟩
      have K1 := Lib.hid hk
      clear hk
      go_wp2_with fail
      refine (H1.out _).mono ?_
      rintro e w2 ⟨rfl, hk⟩
      have K2 := Lib.hid (below_then K1.out K1.out.size hk)
      clear hk
      go_wp2_with fail
      refine (H2.out _).mono ?_
      rintro e w3 ⟨rfl, hk⟩
      have K3 := Lib.hid (below_then K2.out K2.out.size hk)
      clear hk
      go_wp2_with fail
      refine (awake_any _).mono ?_
      rintro e w4 ⟨rfl, hk⟩
      have K4 := Lib.hid (below_then K3.out K3.out.size hk)
      clear hk
      go_wp2
      go_ret
      exact ⟨rfl, K4.out⟩
theorem plain_law (s t : List Nat) (hs : ∀ x ∈ s, x < 256) (ht : ∀ x ∈ t, x < 256) (ls : s.length ≤ 1048576) (w : World) : Calls Try.prog 4 #[.string (bs s), .string (bs t)] w fun e w' => e = .returned (.bool true) ∧ Below w.heap.size w w' := by
  by_cases h : 200 < t.length
  · exact plain_far s t w h
  · exact plain_near s t hs ht ls w (by omega)
theorem plain_walk (s t : List UInt8) (ls : s.length ≤ 1048576) (w : World) : Calls Try.prog 4 #[.string ⟨⟨s⟩⟩, .string ⟨⟨t⟩⟩] w fun e w' => e = .returned (.bool true) ∧ Below w.heap.size w w' := by
  have := plain_law (nats s) (nats t) (nats_lt s) (nats_lt t) (by rw [nats_len]; exact ls) w
  rw [bs_nats, bs_nats] at this
  exact this
/-- What the bound gives: the first text's length. -/
theorem plain_short {H : Type} {s t : List UInt8} (hk : Rows.uptoSmall H [.lit (.string s), .lit (.string t)] = true) : s.length ≤ 1048576 := by
  have h : Rows.uptoBulkAll [DataW.lit (H := H) (.string s), .lit (.string t)] ≤ 1048576 := of_decide_eq_true hk
  simp only [Rows.uptoBulkAll, Rows.uptoBulk] at h
  omega
set_option maxRecDepth 100000 in
theorem regexPlain_lifted (os : Os) (started : os.Started) (H : Type) (enc : TypeId × Value → H) (F : Stop.Interp) :
    ReturnsInHanded {} Try.checked os 4 .any ((Rows.OpenSpec.upto Rows.regexPlainSpec).pre6 enc Try.prog Try.f4 Rows.regexPlainUptoRow.domain false) (((Rows.OpenSpec.upto Rows.regexPlainSpec).at F).post enc Try.prog Try.f4 false true false false) := by
  refine returnsInHanded_of_cond (C := Try.checked) (s := Rows.OpenSpec.upto Rows.regexPlainSpec) (k := Rows.uptoSmall) rfl tOwn started (by kernel_rfl) Try.func4
    (OpenSpec.witness (enc := enc) (C := Try.checked) (s := Rows.OpenSpec.upto Rows.regexPlainSpec) (k := Rows.uptoSmall) rfl false ⟨#[], #[.string ⟨#[]⟩, .string ⟨#[]⟩], []⟩ 8 (by kernel_rfl) (by kernel_rfl) (by kernel_rfl)
      (x := ([.lit (.string []), .lit (.string [])], [], [])) (by kernel_rfl) rfl (by kernel_rfl)) ?_
  intro W base args ds gs before hval0 hW _ hk _
  have hval : ∀ (j : Nat) t v, Try.f4.params[j]? = some t → args[j]? = some v → Value.okWide Try.prog W .any base t v := hval0
  have hW' := hW
  obtain ⟨p, q, hA0, hV, rfl, hfz, hnd⟩ := hW
  have hA : DataW.TrodAll enc Try.prog W 0 (fun _ => true) true Try.f4.params.toList args.toList ds p := hA0
  rw [Try.params4] at hA hval
  obtain ⟨v0, vs0, d0, ds0, p0, q0, hargs, rfl, rfl, h0, r0⟩ := trodAll_cons hA
  obtain ⟨v1, vs1, d1, ds1, p1, q1, rfl, rfl, rfl, h1, r1⟩ := trodAll_cons r0
  obtain ⟨rfl, rfl, rfl⟩ := trodAll_nil r1
  obtain rfl : args = #[v0, v1] := by cases args; simp_all
  obtain ⟨⟨⟨s⟩⟩, rfl, rfl, rfl, ws⟩ := Go.ChangeMaps.open_string Try.underlying9 (hval 0 9 v0 rfl rfl) h0
  obtain ⟨⟨⟨t⟩⟩, rfl, rfl, rfl, wt⟩ := Go.ChangeMaps.open_string Try.underlying9 (hval 1 9 v1 rfl rfl) h1
  have hgs : gs = [] := (trodVars_none hV).1
  subst hgs
  refine (plain_walk s t (plain_short hk) W).mono fun e W' ⟨he, hb⟩ => ?_
  subst he
  exact ⟨_, rfl, law_post tLaid (by decide +kernel) hW' rfl (by kernel_rfl) Try.underlying4 rfl hb⟩
/-- The closed facts of the row. -/
theorem regexPlain_facts : joinedFacts Try.pinned.checked.prog 4 Try.f4 (Rows.OpenSpec.upto Rows.regexPlainSpec).bare Rows.regexPlainUptoRow = true := joined_at 4 Try.f4 (Rows.OpenSpec.upto Rows.regexPlainSpec).bare Rows.regexPlainUptoRow (by
  intro P hP h1 h2 h3
  unfold joinedFacts
  rw [h1, h2, h3]
  subst hP
  kernel_rfl)
/-- The statement. -/
theorem regexPlain_holds : Rows.RegexPlainUptoSaid :=
  OpenClaim.holds_of_cond 4 Try.f4 rfl rfl rfl rfl rfl rfl rfl ⟨rfl, rfl, rfl, rfl, rfl⟩ rfl rfl rfl rfl rfl (by kernel_rfl) Try.func4 regexPlain_facts
    (of_decide_eq_true (by kernel_rfl)) (by unfold Func.isWrapper; rw [if_neg (of_decide_eq_false (by kernel_rfl))]; exact ⟨rfl, rfl⟩)
    (fun os started H enc _ F => regexPlain_lifted os started H enc F)
#print axioms regexPlain_holds
end Go.Proofs.Ytnidjfmbbfoheaa
