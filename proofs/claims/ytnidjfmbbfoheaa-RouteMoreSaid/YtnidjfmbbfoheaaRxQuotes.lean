/- The statement RegexQuotes: any text is quoted as the document says. Conditions: none. -/
import Derived.Test.YtnidjfmbbfoheaaRxQ2
import Derived.Test.YtnidjfmbbfoheaaRxAwake
import Derived.Test.YtnidjfmbbfoheaaRxHead
namespace Go.Proofs.Ytnidjfmbbfoheaa
set_option linter.unusedVariables false
set_option linter.unusedSimpArgs false
open Go.ChangeShapes Go.WideShapes Go.ChangeAt Go.RowKit Go.Joins Go.Deep

def nats (l : List UInt8) : List Nat := l.map UInt8.toNat
theorem bs_nats (l : List UInt8) : bs (nats l) = ⟨l.toArray⟩ := by
  unfold bs nats
  rw [List.map_map]
  have e : (UInt8.ofNat ∘ UInt8.toNat) = id := by funext x; simp
  rw [e, List.map_id]
theorem nats_lt (l : List UInt8) : ∀ x ∈ nats l, x < 256 := by
  intro x hx
  unfold nats at hx
  obtain ⟨y, _, rfl⟩ := List.mem_map.1 hx
  exact y.toNat_lt
theorem nats_len (l : List UInt8) : (nats l).length = l.length := by simp [nats]
set_option maxRecDepth 100000 in
theorem quotes_law (s : List Nat) (hs : ∀ x ∈ s, x < 256) (hsl : s.length ≤ 9223372036854775807) (w : World) :
    Calls Try.prog 3 #[.string (bs s)] w fun e w' => e = .returned (.bool true) ∧ Below w.heap.size w w' := by
  have htz := bs_size s
  by_cases h : 5000 < s.length
  · have hI : (5000 : Int) < (s.length : Int) := by omega
    clear hs
    generalize bs s = bt at *
    go_enter Try.func3, Try.ntmps3
    go_wp2_with fail
    refine (awake_any _).mono ?_
    rintro e w1 ⟨rfl, hk⟩
    go_wp2
    go_ret
    exact ⟨rfl, hk⟩
  · have hI : ¬ (5000 : Int) < (s.length : Int) := by omega
    have H1 : Hid (∀ w : World, Calls Try.prog 23 #[.string (bs s)] w fun e w' => e = .returned (.string (bs (quoteA s))) ∧ Below w.heap.size w w') := Lib.hid (fun w => quote_any s hs (by omega) w)
    have H2 : Hid (∀ w : World, Calls Try.prog 24 #[.string (bs s)] w fun e w' => e = .returned (.string (bs (quoteA s))) ∧ Below w.heap.size w w') := Lib.hid (fun w => rquote_any s hs (by omega) w)
    clear hs
    generalize bs (quoteA s) = q at *
    generalize bs s = bt at *
    go_enter Try.func3, Try.ntmps3
    go_wp2_with fail
    refine (H1.out _).mono ?_
    rintro e w1 ⟨rfl, hk⟩
    have K1 := Lib.hid hk
    clear hk
    go_wp2_with fail
    refine (H2.out _).mono ?_
    rintro e w2 ⟨rfl, hk⟩
    have K2 := Lib.hid (below_then K1.out K1.out.size hk)
    clear hk
    go_wp2_with fail
    refine (awake_any _).mono ?_
    rintro e w3 ⟨rfl, hk⟩
    have K3 := Lib.hid (below_then K2.out K2.out.size hk)
    clear hk
    go_wp2
    go_ret
    exact ⟨rfl, K3.out⟩
theorem quotes_walk (l : List UInt8) (h : l.length ≤ 9223372036854775807) (w : World) :
    Calls Try.prog 3 #[.string ⟨⟨l⟩⟩] w fun e w' => e = .returned (.bool true) ∧ Below w.heap.size w w' := by
  have := quotes_law (nats l) (nats_lt l) (by rw [nats_len]; exact h) w
  rwa [bs_nats] at this
set_option maxRecDepth 100000 in
theorem regexQuotes_lifted (os : Os) (started : os.Started) (H : Type) (enc : TypeId × Value → H) :
    ReturnsInHanded {} Try.checked os 3 .any (Rows.regexQuotesSpec.pre6 enc Try.prog Try.f3 Rows.regexQuotesRow.domain false) (Rows.regexQuotesSpec.post enc Try.prog Try.f3 false true false false) := by
  refine returnsInHanded_of_change (C := Try.checked) tOwn started (by kernel_rfl) Try.func3
    (ChangeSpec.witness6 (enc := enc) (C := Try.checked) false ⟨#[], #[.string ⟨#[]⟩], []⟩ 8 (by kernel_rfl) (by kernel_rfl) (by kernel_rfl) (by kernel_rfl)) ?_
  intro W base args ds gs before hval0 hW hcnd _
  have hval : ∀ (j : Nat) t v, Try.f3.params[j]? = some t → args[j]? = some v → Value.okWide Try.prog W .any base t v := hval0
  have hW' := hW
  obtain ⟨p, q, hA0, hV, rfl, hfz, hnd⟩ := hW
  have hA : DataW.TrodAll enc Try.prog W 0 (fun _ => true) true Try.f3.params.toList args.toList ds p := hA0
  rw [Try.params3] at hA hval
  obtain ⟨v0, vs0, d0, ds0, p0, q0, hargs, rfl, rfl, h0, r0⟩ := trodAll_cons hA
  obtain ⟨rfl, rfl, rfl⟩ := trodAll_nil r0
  obtain rfl : args = #[v0] := by cases args; simp_all
  obtain ⟨⟨⟨s0⟩⟩, rfl, rfl, rfl, ws0⟩ := Go.ChangeMaps.open_string Try.underlying9 (hval 0 9 v0 rfl rfl) h0
  refine (quotes_walk s0 (by simpa [ByteArray.size, maxLen] using ws0) W).mono fun e W' ⟨he, hb⟩ => ?_
  subst he
  exact ⟨_, rfl, law_post tLaid (by decide +kernel) hW' rfl (by kernel_rfl) Try.underlying4 rfl hb⟩

/-- The closed facts of the row. -/
theorem regexQuotes_facts : joinedFacts Try.pinned.checked.prog 3 Try.f3 Rows.regexQuotesSpec Rows.regexQuotesRow = true := joined_at 3 Try.f3 Rows.regexQuotesSpec Rows.regexQuotesRow (by
  intro P hP h1 h2 h3
  unfold joinedFacts
  rw [h1, h2, h3]
  subst hP
  kernel_rfl)
/-- The statement. -/
theorem regexQuotes_holds : Rows.RegexQuotesSaid :=
  OpenClaim.holds_of_wide 3 Try.f3 rfl rfl rfl rfl rfl rfl rfl ⟨rfl, rfl, rfl, rfl, rfl⟩ rfl rfl rfl rfl rfl (by kernel_rfl) Try.func3 regexQuotes_facts
    (of_decide_eq_true (by kernel_rfl)) (by unfold Func.isWrapper; rw [if_neg (of_decide_eq_false (by kernel_rfl))]; exact ⟨rfl, rfl⟩)
    (fun os started H enc _ => regexQuotes_lifted os started H enc)
#print axioms regexQuotes_holds
end Go.Proofs.Ytnidjfmbbfoheaa
