/- The statement RegexOr. Conditions: none. -/
import Derived.Test.YtnidjfmbbfoheaaRxG
import Derived.Test.YtnidjfmbbfoheaaRxQuotes
namespace Go.Proofs.Ytnidjfmbbfoheaa
set_option linter.unusedVariables false
set_option linter.unusedSimpArgs false
open Go.ChangeShapes Go.WideShapes Go.ChangeAt Go.RowKit Go.Joins Go.Deep

theorem bs_app (a b : List Nat) : bs a ++ bs b = bs (a ++ b) := by
  apply ByteArray.ext
  simp [bs]
theorem like_read {s t : List Nat} {r : Rx.Re} (h : Rx.readA s = some r) (hs : s.length ≤ 64) : likeVal s t = .tuple #[.bool (Rx.matchC (Rx.comp r) t), .int .i64 0] := by
  refine likeVal_some t (by omega) (c := Rx.comp r) ?_
  unfold Rx.compile
  rw [h]
  rfl
theorem like_unread {s t : List Nat} (h : Rx.readA s = none) (hs : s.length ≤ 64) : likeVal s t = .tuple #[.bool false, .int .i64 9] := by
  refine likeVal_none t (by omega) ?_
  unfold Rx.compile
  rw [h]
  rfl
set_option maxRecDepth 100000 in
set_option maxHeartbeats 2000000 in
theorem or_in (p q t : List Nat) (r1 r2 : Rx.Re) (hp : p.length ≤ 28) (hq : q.length ≤ 28) (ht : t.length ≤ 60) (bp : ∀ x ∈ p, x < 256) (bq : ∀ x ∈ q, x < 256) (bt : ∀ x ∈ t, x < 256)
    (h1 : Rx.readA p = some r1) (h2 : Rx.readA q = some r2) (w : World) :
    Calls Try.prog 5 #[.string (bs p), .string (bs q), .string (bs t)] w fun e w' => e = .returned (.bool true) ∧ Below w.heap.size w w' := by
  have sp := bs_size p
  have sq := bs_size q
  have st := bs_size t
  obtain ⟨r, h3, hl3⟩ := Rx.read_or h1 h2
  obtain ⟨r', h4, hl4⟩ := Rx.read_or (Rx.read_group h1 [] _ rfl) (Rx.read_group h2 [] _ rfl)
  have s1 := read_sets h1
  have s2 := read_sets h2
  have s3 := read_sets h3
  have s4 := read_sets h4
  have m3 : Rx.matchC (Rx.comp r) t = (Rx.matchC (Rx.comp r1) t || Rx.matchC (Rx.comp r2) t) := by
    rw [Bool.eq_iff_iff, Bool.or_eq_true, Rx.match_lang _ s3, Rx.match_lang _ s1, Rx.match_lang _ s2]
    exact hl3 t
  have m4 : Rx.matchC (Rx.comp r') t = Rx.matchC (Rx.comp r) t := by
    rw [Bool.eq_iff_iff, Rx.match_lang _ s3, Rx.match_lang _ s4, hl3 t, hl4 t]
    simp only [Rx.lang_cat_nil, Rx.lang_junk]
  have H1 := Lib.hid (fun w => like_any p t bp (by omega) bt (by omega) w)
  have H2 := Lib.hid (fun w => like_any q t bq (by omega) bt (by omega) w)
  have H3 := Lib.hid (fun w => like_any (p ++ 124 :: q) t (by intro x hx; simp only [List.mem_append, List.mem_cons] at hx; rcases hx with hx | rfl | hx; exact bp x hx; omega; exact bq x hx) (by simp; omega) bt (by omega) w)
  have H4 := Lib.hid (fun w => like_any (40 :: (p ++ 41 :: []) ++ 124 :: 40 :: (q ++ 41 :: [])) t (by intro x hx; simp only [List.mem_append, List.mem_cons, List.not_mem_nil, or_false] at hx; rcases hx with (rfl | hx | rfl) | rfl | rfl | hx | rfl; omega; exact bp x hx; omega; omega; omega; exact bq x hx; omega) (by simp; omega) bt (by omega) w)
  simp only [like_read h1 (show p.length ≤ 64 by omega)] at H1
  simp only [like_read h2 (show q.length ≤ 64 by omega)] at H2
  simp only [like_read h3 (show (p ++ 124 :: q).length ≤ 64 by simp; omega), m3] at H3
  simp only [like_read h4 (show (40 :: (p ++ 41 :: []) ++ 124 :: 40 :: (q ++ 41 :: [])).length ≤ 64 by simp; omega), m4, m3] at H4
  have E3 : bs (p ++ 124 :: q) = bs p ++ ⟨#[124]⟩ ++ bs q := by rw [show (⟨#[124]⟩ : ByteArray) = bs [124] from rfl, bs_app, bs_app]; simp
  have E4 : bs (40 :: (p ++ 41 :: []) ++ 124 :: 40 :: (q ++ 41 :: [])) = ⟨#[40]⟩ ++ bs p ++ ⟨#[41, 124, 40]⟩ ++ bs q ++ ⟨#[41]⟩ := by rw [show (⟨#[40]⟩ : ByteArray) = bs [40] from rfl, show (⟨#[41, 124, 40]⟩ : ByteArray) = bs [41, 124, 40] from rfl, show (⟨#[41]⟩ : ByteArray) = bs [41] from rfl, bs_app, bs_app, bs_app, bs_app]; simp
  rw [E3] at H3
  rw [E4] at H4
  clear E3 E4 m3 m4 h1 h2 h3 h4 hl3 hl4 s1 s2 s3 s4 bp bq bt
  have ipI : (p.length : Int) ≤ 28 := by omega
  have iqI : (q.length : Int) ≤ 28 := by omega
  have itI : (t.length : Int) ≤ 60 := by omega
  generalize bs p = cp at *
  generalize bs q = cq at *
  generalize bs t = ct at *
  generalize Rx.matchC (Rx.comp r1) t = u1 at *
  generalize Rx.matchC (Rx.comp r2) t = u2 at *
  go_enter Try.func5, Try.ntmps5
  go_wp2_with fail
  refine (H1.out _).mono ?_
  rintro e w1 ⟨rfl, hk⟩
  have K1 := Lib.hid hk
  clear hk
  go_wp2_with fail
  refine (H2.out _).mono ?_
  rintro e w2 ⟨rfl, hk⟩
  have K2 := Lib.hid (below_then K1.out K1.out.size hk)
  clear hk
  go_wp2_with fail
  refine (H3.out _).mono ?_
  rintro e w3 ⟨rfl, hk⟩
  have K3 := Lib.hid (below_then K2.out K2.out.size hk)
  clear hk
  go_wp2_with fail
  refine (H4.out _).mono ?_
  rintro e w4 ⟨rfl, hk⟩
  have K4 := Lib.hid (below_then K3.out K3.out.size hk)
  clear hk
  cases u1 <;> cases u2
  all_goals
    go_wp2_with fail
    refine (awake_any _).mono ?_
    rintro e w5 ⟨rfl, hk⟩
    have K5 := Lib.hid (below_then K4.out K4.out.size hk)
    clear hk
    go_wp2
    go_ret
    exact ⟨rfl, K5.out⟩
set_option maxRecDepth 100000 in
set_option maxHeartbeats 2000000 in
/-- One of them is no pattern. -/
theorem or_bad (p q t : List Nat) (hp : p.length ≤ 28) (hq : q.length ≤ 28) (ht : t.length ≤ 60) (bp : ∀ x ∈ p, x < 256) (bq : ∀ x ∈ q, x < 256) (bt : ∀ x ∈ t, x < 256)
    (hbad : Rx.readA p = none ∨ Rx.readA q = none) (w : World) :
    Calls Try.prog 5 #[.string (bs p), .string (bs q), .string (bs t)] w fun e w' => e = .returned (.bool true) ∧ Below w.heap.size w w' := by
  have sp := bs_size p
  have sq := bs_size q
  have st := bs_size t
  have H1 := Lib.hid (fun w => like_any p t bp (by omega) bt (by omega) w)
  have H2 := Lib.hid (fun w => like_any q t bq (by omega) bt (by omega) w)
  obtain ⟨u1, k1, e1⟩ : ∃ (u : Bool) (k : Int), likeVal p t = .tuple #[.bool u, .int .i64 k] ∧ (k = 0 ∨ k = 9) ∧ (Rx.readA p = none → k = 9) := by
    cases h : Rx.readA p with
    | none => exact ⟨false, 9, like_unread h (by omega), .inr rfl, fun _ => rfl⟩
    | some r => exact ⟨_, 0, like_read h (by omega), .inl rfl, fun h => by cases h⟩
  obtain ⟨u2, k2, e2⟩ : ∃ (u : Bool) (k : Int), likeVal q t = .tuple #[.bool u, .int .i64 k] ∧ (k = 0 ∨ k = 9) ∧ (Rx.readA q = none → k = 9) := by
    cases h : Rx.readA q with
    | none => exact ⟨false, 9, like_unread h (by omega), .inr rfl, fun _ => rfl⟩
    | some r => exact ⟨_, 0, like_read h (by omega), .inl rfl, fun h => by cases h⟩
  have hkk : (k1 = 9 ∧ k2 = 0) ∨ (k1 = 0 ∧ k2 = 9) ∨ (k1 = 9 ∧ k2 = 9) := by
    have a1 := e1.2.1
    have a2 := e2.2.1
    rcases hbad with h | h
    · have := e1.2.2 h; omega
    · have := e2.2.2 h; omega
  simp only [e1.1] at H1
  simp only [e2.1] at H2
  clear e1 e2 hbad bp bq bt
  have ipI : (p.length : Int) ≤ 28 := by omega
  have iqI : (q.length : Int) ≤ 28 := by omega
  have itI : (t.length : Int) ≤ 60 := by omega
  generalize bs p = cp at *
  generalize bs q = cq at *
  generalize bs t = ct at *
  rcases hkk with ⟨rfl, rfl⟩ | ⟨rfl, rfl⟩ | ⟨rfl, rfl⟩
  all_goals
    go_enter Try.func5, Try.ntmps5
    go_wp2_with fail
    refine (H1.out _).mono ?_
    rintro e w1 ⟨rfl, hk⟩
    have K1 := Lib.hid hk
    clear hk
    go_wp2_with fail
    refine (H2.out _).mono ?_
    rintro e w2 ⟨rfl, hk⟩
    have K2 := Lib.hid (below_then K1.out K1.out.size hk)
    clear hk
    go_wp2_with fail
    refine (awake_any _).mono ?_
    rintro e w5 ⟨rfl, hk⟩
    have K5 := Lib.hid (below_then K2.out K2.out.size hk)
    clear hk
    go_wp2
    go_ret
    exact ⟨rfl, K5.out⟩
set_option maxRecDepth 100000 in
set_option maxHeartbeats 2000000 in
/-- One of them is too long. -/
theorem or_far (p q t : List Nat) (h : 28 < p.length ∨ 28 < q.length ∨ 60 < t.length) (lp : p.length ≤ 9223372036854775807) (lq : q.length ≤ 9223372036854775807) (lt : t.length ≤ 9223372036854775807) (w : World) :
    Calls Try.prog 5 #[.string (bs p), .string (bs q), .string (bs t)] w fun e w' => e = .returned (.bool true) ∧ Below w.heap.size w w' := by
  have sp := bs_size p
  have sq := bs_size q
  have st := bs_size t
  generalize bs p = cp at *
  generalize bs q = cq at *
  generalize bs t = ct at *
  by_cases h1 : 60 < t.length
  · have i1 : (60 : Int) < (t.length : Int) := by omega
    go_enter Try.func5, Try.ntmps5
    go_wp2_with fail
    refine (awake_any _).mono ?_
    rintro e w5 ⟨rfl, hk⟩
    go_wp2
    go_ret
    exact ⟨rfl, hk⟩
  · have i1 : (t.length : Int) ≤ 60 := by omega
    by_cases h2 : 28 < p.length
    · have i2 : (28 : Int) < (p.length : Int) := by omega
      go_enter Try.func5, Try.ntmps5
      go_wp2_with fail
      refine (awake_any _).mono ?_
      rintro e w5 ⟨rfl, hk⟩
      go_wp2
      go_ret
      exact ⟨rfl, hk⟩
    · have i2 : (p.length : Int) ≤ 28 := by omega
      have i3 : (28 : Int) < (q.length : Int) := by omega
      go_enter Try.func5, Try.ntmps5
      go_wp2_with fail
      refine (awake_any _).mono ?_
      rintro e w5 ⟨rfl, hk⟩
      go_wp2
      go_ret
      exact ⟨rfl, hk⟩
theorem or_any (p q t : List Nat) (bp : ∀ x ∈ p, x < 256) (bq : ∀ x ∈ q, x < 256) (bt : ∀ x ∈ t, x < 256) (lp : p.length ≤ 9223372036854775807) (lq : q.length ≤ 9223372036854775807) (lt : t.length ≤ 9223372036854775807) (w : World) :
    Calls Try.prog 5 #[.string (bs p), .string (bs q), .string (bs t)] w fun e w' => e = .returned (.bool true) ∧ Below w.heap.size w w' := by
  by_cases h : 28 < p.length ∨ 28 < q.length ∨ 60 < t.length
  · exact or_far p q t h lp lq lt w
  · have a1 : p.length ≤ 28 := by omega
    have a2 : q.length ≤ 28 := by omega
    have a3 : t.length ≤ 60 := by omega
    cases h1 : Rx.readA p with
    | none => exact or_bad p q t a1 a2 a3 bp bq bt (.inl h1) w
    | some r1 =>
      cases h2 : Rx.readA q with
      | none => exact or_bad p q t a1 a2 a3 bp bq bt (.inr h2) w
      | some r2 => exact or_in p q t r1 r2 a1 a2 a3 bp bq bt h1 h2 w
theorem or_walk (p q t : List UInt8) (lp : p.length ≤ 9223372036854775807) (lq : q.length ≤ 9223372036854775807) (lt : t.length ≤ 9223372036854775807) (w : World) :
    Calls Try.prog 5 #[.string ⟨⟨p⟩⟩, .string ⟨⟨q⟩⟩, .string ⟨⟨t⟩⟩] w fun e w' => e = .returned (.bool true) ∧ Below w.heap.size w w' := by
  have := or_any (nats p) (nats q) (nats t) (nats_lt p) (nats_lt q) (nats_lt t) (by rw [nats_len]; exact lp) (by rw [nats_len]; exact lq) (by rw [nats_len]; exact lt) w
  rwa [bs_nats, bs_nats, bs_nats] at this
set_option maxRecDepth 100000 in
theorem regexOr_lifted (os : Os) (started : os.Started) (H : Type) (enc : TypeId × Value → H) :
    ReturnsInHanded {} Try.checked os 5 .any (Rows.regexOrSpec.pre6 enc Try.prog Try.f5 Rows.regexOrRow.domain false) (Rows.regexOrSpec.post enc Try.prog Try.f5 false true false false) := by
  refine returnsInHanded_of_change (C := Try.checked) tOwn started (by kernel_rfl) Try.func5
    (ChangeSpec.witness6 (enc := enc) (C := Try.checked) false ⟨#[], #[.string ⟨#[]⟩, .string ⟨#[]⟩, .string ⟨#[]⟩], []⟩ 8 (by kernel_rfl) (by kernel_rfl) (by kernel_rfl) (by kernel_rfl)) ?_
  intro W base args ds gs before hval0 hW hcnd _
  have hval : ∀ (j : Nat) t v, Try.f5.params[j]? = some t → args[j]? = some v → Value.okWide Try.prog W .any base t v := hval0
  have hW' := hW
  obtain ⟨p, q, hA0, hV, rfl, hfz, hnd⟩ := hW
  have hA : DataW.TrodAll enc Try.prog W 0 (fun _ => true) true Try.f5.params.toList args.toList ds p := hA0
  rw [Try.params5] at hA hval
  obtain ⟨v0, vs0, d0, ds0, p0, q0, hargs, rfl, rfl, h0, r0⟩ := trodAll_cons hA
  obtain ⟨v1, vs1, d1, ds1, p1, q1, rfl, rfl, rfl, h1, r1⟩ := trodAll_cons r0
  obtain ⟨v2, vs2, d2, ds2, p2, q2, rfl, rfl, rfl, h2, r2⟩ := trodAll_cons r1
  obtain ⟨rfl, rfl, rfl⟩ := trodAll_nil r2
  obtain rfl : args = #[v0, v1, v2] := by cases args; simp_all
  obtain ⟨⟨⟨s0⟩⟩, rfl, rfl, rfl, ws0⟩ := Go.ChangeMaps.open_string Try.underlying9 (hval 0 9 v0 rfl rfl) h0
  obtain ⟨⟨⟨s1⟩⟩, rfl, rfl, rfl, ws1⟩ := Go.ChangeMaps.open_string Try.underlying9 (hval 1 9 v1 rfl rfl) h1
  obtain ⟨⟨⟨s2⟩⟩, rfl, rfl, rfl, ws2⟩ := Go.ChangeMaps.open_string Try.underlying9 (hval 2 9 v2 rfl rfl) h2
  refine (or_walk s0 s1 s2 (by simpa [ByteArray.size, maxLen] using ws0) (by simpa [ByteArray.size, maxLen] using ws1) (by simpa [ByteArray.size, maxLen] using ws2) W).mono fun e W' ⟨he, hb⟩ => ?_
  subst he
  exact ⟨_, rfl, law_post tLaid (by decide +kernel) hW' rfl (by kernel_rfl) Try.underlying4 rfl hb⟩

/-- The closed facts of the row. -/
theorem regexOr_facts : joinedFacts Try.pinned.checked.prog 5 Try.f5 Rows.regexOrSpec Rows.regexOrRow = true := joined_at 5 Try.f5 Rows.regexOrSpec Rows.regexOrRow (by
  intro P hP h1 h2 h3
  unfold joinedFacts
  rw [h1, h2, h3]
  subst hP
  kernel_rfl)
/-- The statement. -/
theorem regexOr_holds : Rows.RegexOrSaid :=
  OpenClaim.holds_of_wide 5 Try.f5 rfl rfl rfl rfl rfl rfl rfl ⟨rfl, rfl, rfl, rfl, rfl⟩ rfl rfl rfl rfl rfl (by kernel_rfl) Try.func5 regexOr_facts
    (of_decide_eq_true (by kernel_rfl)) (by unfold Func.isWrapper; rw [if_neg (of_decide_eq_false (by kernel_rfl))]; exact ⟨rfl, rfl⟩)
    (fun os started H enc _ => regexOr_lifted os started H enc)
#print axioms regexOr_holds
end Go.Proofs.Ytnidjfmbbfoheaa
