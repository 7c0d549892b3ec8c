/- The statement RegexBoth. Conditions: none. -/
import Derived.Test.YtnidjfmbbfoheaaRxOr
namespace Go.Proofs.Ytnidjfmbbfoheaa
set_option linter.unusedVariables false
set_option linter.unusedSimpArgs false
open Go.ChangeShapes Go.WideShapes Go.ChangeAt Go.RowKit Go.Joins Go.Deep

theorem bs_take (t : List Nat) (i : Nat) (hi : i ≤ t.length) : (bs t).extract 0 i = bs (t.take i) := by
  apply ByteArray.ext
  rw [ByteArray.data_extract]
  simp [bs, List.map_take]
theorem bs_drop (t : List Nat) (i : Nat) : (bs t).extract i t.length = bs (t.drop i) := by
  apply ByteArray.ext
  rw [ByteArray.data_extract]
  simp [bs, List.map_drop]
  exact List.take_of_length_le (by simp)
/-- Can the text be cut ahead of place n? -/
def someB (c1 c2 : Rx.Cm) (t : List Nat) (n : Nat) : Bool := (List.range n).any (fun k => Rx.matchC c1 (t.take k) && Rx.matchC c2 (t.drop k))
theorem someB_succ (c1 c2 : Rx.Cm) (t : List Nat) (n : Nat) : someB c1 c2 t (n + 1) = (someB c1 c2 t n || (Rx.matchC c1 (t.take n) && Rx.matchC c2 (t.drop n))) := by
  unfold someB
  rw [List.range_succ, List.any_append]
  simp
theorem both_lang {r1 r2 : Rx.Re} (t : List Nat) (s1 : Rx.Sets r1) (s2 : Rx.Sets r2) : Rx.matchC (Rx.comp (.cat (.cat .nil (.junk r1)) (.junk r2))) t = someB (Rx.comp r1) (Rx.comp r2) t (t.length + 1) := by
  have s3 : Rx.Sets (.cat (.cat .nil (.junk r1)) (.junk r2)) := ⟨⟨trivial, s1⟩, s2⟩
  rw [Bool.eq_iff_iff, Rx.match_lang _ s3]
  unfold someB
  rw [List.any_eq_true]
  constructor
  · intro h
    cases h with
    | @cat _ _ u v h1 h2 =>
      rw [Rx.lang_cat_nil, Rx.lang_junk] at h1
      rw [Rx.lang_junk] at h2
      refine ⟨u.length, List.mem_range.2 (by simp; omega), ?_⟩
      rw [Bool.and_eq_true, Rx.match_lang _ s1, Rx.match_lang _ s2]
      rw [List.take_left, List.drop_left]
      exact ⟨h1, h2⟩
  · rintro ⟨k, _, h⟩
    rw [Bool.and_eq_true, Rx.match_lang _ s1, Rx.match_lang _ s2] at h
    have := Rx.Lang.cat (a := .cat .nil (.junk r1)) (b := .junk r2) (Rx.lang_cat_nil.2 (Rx.lang_junk.2 h.1)) (Rx.lang_junk.2 h.2)
    rwa [List.take_append_drop] at this
theorem comp_yes {s : List Nat} {r : Rx.Re} (h : Rx.readA s = some r) (hs : s.length ≤ 64) (bs' : ∀ x ∈ s, x < 256) (w : World) :
    Calls Try.prog 27 #[.string (bs s)] w fun e w' => ∃ g, e = .returned (.tuple #[.pointer (some ⟨g, 0, none⟩), .int .i64 0]) ∧ IsRx w' w.heap.size g (Rx.comp r) ∧ Below w.heap.size w w' := by
  refine (compile_near s w hs bs').mono ?_
  have hc : Rx.compile s = some (Rx.comp r) := by unfold Rx.compile; rw [h]; rfl
  unfold CompEnd
  rw [hc]
  rintro e w' ⟨hb, g, rfl, hI⟩
  exact ⟨g, rfl, hI, hb⟩
theorem comp_no {s : List Nat} (h : Rx.readA s = none) (hs : s.length ≤ 64) (bs' : ∀ x ∈ s, x < 256) (w : World) :
    Calls Try.prog 27 #[.string (bs s)] w fun e w' => e = .returned (.tuple #[.pointer none, .int .i64 9]) ∧ Below w.heap.size w w' := by
  refine (compile_near s w hs bs').mono ?_
  have hc : Rx.compile s = none := by unfold Rx.compile; rw [h]; rfl
  unfold CompEnd
  rw [hc]
  rintro e w' ⟨hb, rfl⟩
  exact ⟨rfl, hb⟩
theorem match_is {s : List Nat} {r : Rx.Re} (h : Rx.readA s = some r) (hs : s.length ≤ 64) (t : List Nat) (bt : ∀ x ∈ t, x < 256) (ht : t.length ≤ 100) (B g : Nat) (w : World) (H : IsRx w B g (Rx.comp r)) :
    Calls Try.prog 28 #[.pointer (some ⟨g, 0, none⟩), .string (bs t)] w fun e w' => e = .returned (.bool (Rx.matchC (Rx.comp r) t)) ∧ Below w.heap.size w w' := by
  have hc : Rx.compile s = some (Rx.comp r) := by unfold Rx.compile; rw [h]; rfl
  have hv := compile_val hc hs
  exact match_any _ hv.1 hv.2 t bt (by omega) B g w H
set_option maxRecDepth 100000 in
set_option maxHeartbeats 4000000 in
theorem both_in (p q t : List Nat) (r1 r2 : Rx.Re) (hp : p.length ≤ 28) (hq : q.length ≤ 28) (ht : t.length ≤ 40) (bp : ∀ x ∈ p, x < 256) (bq : ∀ x ∈ q, x < 256) (bt : ∀ x ∈ t, x < 256)
    (h1 : Rx.readA p = some r1) (h2 : Rx.readA q = some r2) (w : World) :
    Calls Try.prog 6 #[.string (bs p), .string (bs q), .string (bs t)] w fun e w' => e = .returned (.bool true) ∧ Below w.heap.size w w' := by
  have sp := bs_size p
  have sq := bs_size q
  have st := bs_size t
  have s1 := read_sets h1
  have s2 := read_sets h2
  have h4 := Rx.read_both h1 h2
  have m4 := both_lang t s1 s2
  have H1 := Lib.hid (fun w => comp_yes h1 (by omega) bp w)
  have H2 := Lib.hid (fun w => comp_yes h2 (by omega) bq w)
  have M1 : Hid (∀ (i B g : Nat) (w : World), IsRx w B g (Rx.comp r1) → Calls Try.prog 28 #[.pointer (some ⟨g, 0, none⟩), .string (bs (t.take i))] w fun e w' => e = .returned (.bool (Rx.matchC (Rx.comp r1) (t.take i))) ∧ Below w.heap.size w w') := Lib.hid (fun i B g w H => match_is h1 (by omega) (t.take i) (fun x hx => bt x (List.mem_of_mem_take hx)) (by rw [List.length_take]; omega) B g w H)
  have M2 : Hid (∀ (i B g : Nat) (w : World), IsRx w B g (Rx.comp r2) → Calls Try.prog 28 #[.pointer (some ⟨g, 0, none⟩), .string (bs (t.drop i))] w fun e w' => e = .returned (.bool (Rx.matchC (Rx.comp r2) (t.drop i))) ∧ Below w.heap.size w w') := Lib.hid (fun i B g w H => match_is h2 (by omega) (t.drop i) (fun x hx => bt x (List.mem_of_mem_drop hx)) (by rw [List.length_drop]; omega) B g w H)
  have H4 := Lib.hid (fun w => like_any (40 :: (p ++ 41 :: 40 :: (q ++ [41]))) t (by intro x hx; simp only [List.mem_append, List.mem_cons, List.not_mem_nil, or_false] at hx; rcases hx with rfl | hx | rfl | rfl | hx | rfl; omega; exact bp x hx; omega; omega; exact bq x hx; omega) (by simp; omega) bt (by omega) w)
  simp only [like_read h4 (show (40 :: (p ++ 41 :: 40 :: (q ++ [41]))).length ≤ 64 by simp; omega), m4] at H4
  have E4 : bs (40 :: (p ++ 41 :: 40 :: (q ++ [41]))) = ⟨#[40]⟩ ++ bs p ++ ⟨#[41, 40]⟩ ++ bs q ++ ⟨#[41]⟩ := by rw [show (⟨#[40]⟩ : ByteArray) = bs [40] from rfl, show (⟨#[41, 40]⟩ : ByteArray) = bs [41, 40] from rfl, show (⟨#[41]⟩ : ByteArray) = bs [41] from rfl, bs_app, bs_app, bs_app, bs_app]; simp
  rw [E4] at H4
  have X1 := Lib.hid (fun i => bs_take t i)
  have X2 := Lib.hid (fun i => bs_drop t i)
  clear E4 m4 h1 h2 h4 s1 s2 bp bq bt
  have ipI : (p.length : Int) ≤ 28 := by omega
  have iqI : (q.length : Int) ≤ 28 := by omega
  have itI : (t.length : Int) ≤ 40 := by omega
  generalize bs p = cp at *
  generalize bs q = cq at *
  generalize bs t = ct at *
  have SU := Lib.hid (someB_succ (Rx.comp r1) (Rx.comp r2) t)
  have S0 : someB (Rx.comp r1) (Rx.comp r2) t 0 = false := rfl
  generalize Rx.comp r1 = c1 at *
  generalize Rx.comp r2 = c2 at *
  go_enter Try.func6, Try.ntmps6
  go_wp2_with fail
  refine (H1.out _).mono ?_
  rintro e w1 ⟨g1, rfl, hI, hk⟩
  have K1 := Lib.hid hk
  have I1 := Lib.hid hI
  clear hk hI
  go_wp2_with fail
  refine (H2.out _).mono ?_
  rintro e w2 ⟨g2, rfl, hI, hk⟩
  have K2 := Lib.hid (below_then K1.out K1.out.size hk)
  have I2 := Lib.hid hI
  have I1b := Lib.hid (I1.out.below hk)
  clear hk hI
  go_wp2
  go_loopg [11, 12] (t.length + 1) (fun gg s11 s12 wr => ∃ i : Nat, s12 = .int .i64 (i : Int) ∧ i ≤ t.length + 1 ∧ t.length + 1 - i ≤ gg ∧ s11 = .bool (someB c1 c2 t i) ∧ Hid (Below w2.heap.size w2 wr))
  case atStart => exact ⟨0, by go_num, by omega, by omega, by rw [S0], Lib.hid (Below.refl _ _)⟩
  case round =>
    obtain ⟨i, rfl, hi, hgg, rfl, K3⟩ := hrel
    clear S0
    by_cases hlt : i ≤ t.length
    · have hiI : (i : Int) ≤ (t.length : Int) := by omega
      have hi0 : (0 : Int) ≤ (i : Int) := by omega
      have x1 := X1.out i hlt
      have x2 := X2.out i
      have MM1 := Lib.hid (M1.out i)
      have MM2 := Lib.hid (M2.out i)
      have hsu := SU.out i
      generalize bs (t.take i) = t1 at *
      generalize bs (t.drop i) = t2 at *
      generalize someB c1 c2 t i = A at *
      generalize Rx.matchC c1 (t.take i) = u at *
      generalize Rx.matchC c2 (t.drop i) = v at *
      have HSU := Lib.hid hsu
      clear hsu
      cases A with
      | true =>
        go_wp2
        go_roundg (t.length + 1 - (i + 1))
        case measure => omega
        case rel => exact ⟨i + 1, by go_num, by omega, by omega, by rw [HSU.out]; rfl, K3⟩
      | false =>
        go_wp2_with fail
        refine (MM1.out _ g1 _ (I1b.out.below K3.out)).mono ?_
        rintro e w4 ⟨rfl, hk⟩
        have K4 := Lib.hid (below_then K3.out K3.out.size hk)
        clear hk
        cases u with
        | false =>
          go_wp2
          go_roundg (t.length + 1 - (i + 1))
          case measure => omega
          case rel => exact ⟨i + 1, by go_num, by omega, by omega, by rw [HSU.out]; rfl, K4⟩
        | true =>
          go_wp2_with fail
          refine (MM2.out _ g2 _ (I2.out.below K4.out)).mono ?_
          rintro e w5 ⟨rfl, hk⟩
          have K5 := Lib.hid (below_then K4.out K4.out.size hk)
          clear hk
          cases v with
          | false =>
            go_wp2
            go_roundg (t.length + 1 - (i + 1))
            case measure => omega
            case rel => exact ⟨i + 1, by go_num, by omega, by omega, by rw [HSU.out]; rfl, K5⟩
          | true =>
            go_wp2
            go_roundg (t.length + 1 - (i + 1))
            case measure => omega
            case rel => exact ⟨i + 1, by go_num, by omega, by omega, by rw [HSU.out]; rfl, K5⟩
    · have hie : i = t.length + 1 := by omega
      subst hie
      have hnI : ¬ ((t.length + 1 : Nat) : Int) ≤ (t.length : Int) := by omega
      generalize someB c1 c2 t (t.length + 1) = A at *
      go_wp2_with fail
      refine (H4.out _).mono ?_
      rintro e w4 ⟨rfl, hk⟩
      have K4 := Lib.hid (below_then K2.out K2.out.size (below_then K3.out K3.out.size hk))
      clear hk
      cases A
      all_goals
        go_wp2_with fail
        refine (awake_any _).mono ?_
        rintro e w5 ⟨rfl, hk⟩
        have K5 := Lib.hid (below_then K4.out K4.out.size hk)
        clear hk
        go_wp2
        go_ret
        exact ⟨rfl, K5.out⟩
set_option maxRecDepth 100000 in
set_option maxHeartbeats 2000000 in
/-- One of them is no pattern. -/
theorem both_bad (p q t : List Nat) (hp : p.length ≤ 28) (hq : q.length ≤ 28) (ht : t.length ≤ 40) (bp : ∀ x ∈ p, x < 256) (bq : ∀ x ∈ q, x < 256)
    (hbad : Rx.readA p = none ∨ Rx.readA q = none) (w : World) :
    Calls Try.prog 6 #[.string (bs p), .string (bs q), .string (bs t)] w fun e w' => e = .returned (.bool true) ∧ Below w.heap.size w w' := by
  have sp := bs_size p
  have sq := bs_size q
  have st := bs_size t
  have two : ∀ (s : List Nat), s.length ≤ 28 → (∀ x ∈ s, x < 256) → ∃ k : Int, (k = 0 ∨ k = 9) ∧ (Rx.readA s = none → k = 9) ∧ ∀ w : World, Calls Try.prog 27 #[.string (bs s)] w fun e w' => ∃ v, e = .returned (.tuple #[.pointer v, .int .i64 k]) ∧ Below w.heap.size w w' := by
    intro s hs hb
    cases h : Rx.readA s with
    | none => exact ⟨9, .inr rfl, fun _ => rfl, fun w => (comp_no h (by omega) hb w).mono fun e w' ⟨a, b⟩ => ⟨_, a, b⟩⟩
    | some r => exact ⟨0, .inl rfl, (fun h => by cases h), fun w => (comp_yes h (by omega) hb w).mono fun e w' ⟨g, a, _, b⟩ => ⟨_, a, b⟩⟩
  obtain ⟨k1, a1, a2, a3⟩ := two p hp bp
  obtain ⟨k2, b1, b2, b3⟩ := two q hq bq
  have hkk : (k1 = 9 ∧ k2 = 0) ∨ (k1 = 0 ∧ k2 = 9) ∨ (k1 = 9 ∧ k2 = 9) := by
    rcases hbad with h | h
    · have := a2 h; omega
    · have := b2 h; omega
  have H1 := Lib.hid a3
  have H2 := Lib.hid b3
  clear two a1 a2 a3 b1 b2 b3 hbad bp bq
  have ipI : (p.length : Int) ≤ 28 := by omega
  have iqI : (q.length : Int) ≤ 28 := by omega
  have itI : (t.length : Int) ≤ 40 := by omega
  generalize bs p = cp at *
  generalize bs q = cq at *
  generalize bs t = ct at *
  rcases hkk with ⟨rfl, rfl⟩ | ⟨rfl, rfl⟩ | ⟨rfl, rfl⟩
  all_goals
    go_enter Try.func6, Try.ntmps6
    go_wp2_with fail
    refine (H1.out _).mono ?_
    rintro e w1 ⟨v1, rfl, hk⟩
    have K1 := Lib.hid hk
    clear hk
    go_wp2_with fail
    refine (H2.out _).mono ?_
    rintro e w2 ⟨v2, rfl, hk⟩
    have K2 := Lib.hid (below_then K1.out K1.out.size hk)
    clear hk
    go_wp2_with fail
    refine (awake_any _).mono ?_
    rintro e w5 ⟨rfl, hk⟩
    have K5 := Lib.hid (below_then K2.out K2.out.size hk)
    clear hk
    go_wp2
    go_ret
    exact ⟨rfl, K5.out⟩
set_option maxRecDepth 100000 in
set_option maxHeartbeats 2000000 in
/-- One of them is too long. -/
theorem both_far (p q t : List Nat) (h : 28 < p.length ∨ 28 < q.length ∨ 40 < t.length) (lp : p.length ≤ 9223372036854775807) (lq : q.length ≤ 9223372036854775807) (lt : t.length ≤ 9223372036854775807) (w : World) :
    Calls Try.prog 6 #[.string (bs p), .string (bs q), .string (bs t)] w fun e w' => e = .returned (.bool true) ∧ Below w.heap.size w w' := by
  have sp := bs_size p
  have sq := bs_size q
  have st := bs_size t
  generalize bs p = cp at *
  generalize bs q = cq at *
  generalize bs t = ct at *
  by_cases h1 : 40 < t.length
  · have i1 : (40 : Int) < (t.length : Int) := by omega
    go_enter Try.func6, Try.ntmps6
    go_wp2_with fail
    refine (awake_any _).mono ?_
    rintro e w5 ⟨rfl, hk⟩
    go_wp2
    go_ret
    exact ⟨rfl, hk⟩
  · have i1 : (t.length : Int) ≤ 40 := by omega
    by_cases h2 : 28 < p.length
    · have i2 : (28 : Int) < (p.length : Int) := by omega
      go_enter Try.func6, Try.ntmps6
      go_wp2_with fail
      refine (awake_any _).mono ?_
      rintro e w5 ⟨rfl, hk⟩
      go_wp2
      go_ret
      exact ⟨rfl, hk⟩
    · have i2 : (p.length : Int) ≤ 28 := by omega
      have i3 : (28 : Int) < (q.length : Int) := by omega
      go_enter Try.func6, Try.ntmps6
      go_wp2_with fail
      refine (awake_any _).mono ?_
      rintro e w5 ⟨rfl, hk⟩
      go_wp2
      go_ret
      exact ⟨rfl, hk⟩
theorem both_any (p q t : List Nat) (bp : ∀ x ∈ p, x < 256) (bq : ∀ x ∈ q, x < 256) (bt : ∀ x ∈ t, x < 256) (lp : p.length ≤ 9223372036854775807) (lq : q.length ≤ 9223372036854775807) (lt : t.length ≤ 9223372036854775807) (w : World) :
    Calls Try.prog 6 #[.string (bs p), .string (bs q), .string (bs t)] w fun e w' => e = .returned (.bool true) ∧ Below w.heap.size w w' := by
  by_cases h : 28 < p.length ∨ 28 < q.length ∨ 40 < t.length
  · exact both_far p q t h lp lq lt w
  · have a1 : p.length ≤ 28 := by omega
    have a2 : q.length ≤ 28 := by omega
    have a3 : t.length ≤ 40 := by omega
    cases h1 : Rx.readA p with
    | none => exact both_bad p q t a1 a2 a3 bp bq (.inl h1) w
    | some r1 =>
      cases h2 : Rx.readA q with
      | none => exact both_bad p q t a1 a2 a3 bp bq (.inr h2) w
      | some r2 => exact both_in p q t r1 r2 a1 a2 a3 bp bq bt h1 h2 w
theorem both_walk (p q t : List UInt8) (lp : p.length ≤ 9223372036854775807) (lq : q.length ≤ 9223372036854775807) (lt : t.length ≤ 9223372036854775807) (w : World) :
    Calls Try.prog 6 #[.string ⟨⟨p⟩⟩, .string ⟨⟨q⟩⟩, .string ⟨⟨t⟩⟩] w fun e w' => e = .returned (.bool true) ∧ Below w.heap.size w w' := by
  have := both_any (nats p) (nats q) (nats t) (nats_lt p) (nats_lt q) (nats_lt t) (by rw [nats_len]; exact lp) (by rw [nats_len]; exact lq) (by rw [nats_len]; exact lt) w
  rwa [bs_nats, bs_nats, bs_nats] at this
set_option maxRecDepth 100000 in
theorem regexBoth_lifted (os : Os) (started : os.Started) (H : Type) (enc : TypeId × Value → H) :
    ReturnsInHanded {} Try.checked os 6 .any (Rows.regexBothSpec.pre6 enc Try.prog Try.f6 Rows.regexBothRow.domain false) (Rows.regexBothSpec.post enc Try.prog Try.f6 false true false false) := by
  refine returnsInHanded_of_change (C := Try.checked) tOwn started (by kernel_rfl) Try.func6
    (ChangeSpec.witness6 (enc := enc) (C := Try.checked) false ⟨#[], #[.string ⟨#[]⟩, .string ⟨#[]⟩, .string ⟨#[]⟩], []⟩ 8 (by kernel_rfl) (by kernel_rfl) (by kernel_rfl) (by kernel_rfl)) ?_
  intro W base args ds gs before hval0 hW hcnd _
  have hval : ∀ (j : Nat) t v, Try.f6.params[j]? = some t → args[j]? = some v → Value.okWide Try.prog W .any base t v := hval0
  have hW' := hW
  obtain ⟨p, q, hA0, hV, rfl, hfz, hnd⟩ := hW
  have hA : DataW.TrodAll enc Try.prog W 0 (fun _ => true) true Try.f6.params.toList args.toList ds p := hA0
  rw [Try.params6] at hA hval
  obtain ⟨v0, vs0, d0, ds0, p0, q0, hargs, rfl, rfl, h0, r0⟩ := trodAll_cons hA
  obtain ⟨v1, vs1, d1, ds1, p1, q1, rfl, rfl, rfl, h1, r1⟩ := trodAll_cons r0
  obtain ⟨v2, vs2, d2, ds2, p2, q2, rfl, rfl, rfl, h2, r2⟩ := trodAll_cons r1
  obtain ⟨rfl, rfl, rfl⟩ := trodAll_nil r2
  obtain rfl : args = #[v0, v1, v2] := by cases args; simp_all
  obtain ⟨⟨⟨s0⟩⟩, rfl, rfl, rfl, ws0⟩ := Go.ChangeMaps.open_string Try.underlying9 (hval 0 9 v0 rfl rfl) h0
  obtain ⟨⟨⟨s1⟩⟩, rfl, rfl, rfl, ws1⟩ := Go.ChangeMaps.open_string Try.underlying9 (hval 1 9 v1 rfl rfl) h1
  obtain ⟨⟨⟨s2⟩⟩, rfl, rfl, rfl, ws2⟩ := Go.ChangeMaps.open_string Try.underlying9 (hval 2 9 v2 rfl rfl) h2
  refine (both_walk s0 s1 s2 (by simpa [ByteArray.size, maxLen] using ws0) (by simpa [ByteArray.size, maxLen] using ws1) (by simpa [ByteArray.size, maxLen] using ws2) W).mono fun e W' ⟨he, hb⟩ => ?_
  subst he
  exact ⟨_, rfl, law_post tLaid (by decide +kernel) hW' rfl (by kernel_rfl) Try.underlying4 rfl hb⟩

/-- The closed facts of the row. -/
theorem regexBoth_facts : joinedFacts Try.pinned.checked.prog 6 Try.f6 Rows.regexBothSpec Rows.regexBothRow = true := joined_at 6 Try.f6 Rows.regexBothSpec Rows.regexBothRow (by
  intro P hP h1 h2 h3
  unfold joinedFacts
  rw [h1, h2, h3]
  subst hP
  kernel_rfl)
/-- The statement. -/
theorem regexBoth_holds : Rows.RegexBothSaid :=
  OpenClaim.holds_of_wide 6 Try.f6 rfl rfl rfl rfl rfl rfl rfl ⟨rfl, rfl, rfl, rfl, rfl⟩ rfl rfl rfl rfl rfl (by kernel_rfl) Try.func6 regexBoth_facts
    (of_decide_eq_true (by kernel_rfl)) (by unfold Func.isWrapper; rw [if_neg (of_decide_eq_false (by kernel_rfl))]; exact ⟨rfl, rfl⟩)
    (fun os started H enc _ => regexBoth_lifted os started H enc)
#print axioms regexBoth_holds
end Go.Proofs.Ytnidjfmbbfoheaa
