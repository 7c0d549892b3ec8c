/- The statement RegexStar. Conditions: none. (Printed by gen_rxstar.py.) -/
import Derived.Test.YtnidjfmbbfoheaaRxBoth
namespace Go.Proofs.Ytnidjfmbbfoheaa
set_option linter.unusedVariables false
set_option linter.unusedSimpArgs false
open Go.ChangeShapes Go.WideShapes Go.ChangeAt Go.RowKit Go.Joins Go.Deep

theorem star_app {r a : Rx.Re} {s t : List Nat} (h : Rx.Lang a s) : a = .star r → Rx.Lang (.star r) t → Rx.Lang (.star r) (s ++ t) := by
  induction h with
  | star0 => intro e ht; exact ht
  | @starS b u v h1 h2 _ ih2 =>
    intro e ht
    injection e with e
    subst e
    rw [List.append_assoc]
    exact .starS h1 (ih2 rfl ht)
  | _ => intro e; cases e
theorem plus_star {r a : Rx.Re} {s : List Nat} (h : Rx.Lang a s) : a = .plus r → Rx.Lang (.star r) s := by
  induction h with
  | @plus1 b u h1 _ =>
    intro e
    injection e with e
    subst e
    have := Rx.Lang.starS h1 .star0
    simpa using this
  | @plusS b u v h1 h2 _ ih2 =>
    intro e
    injection e with e
    subst e
    exact .starS h1 (ih2 rfl)
  | _ => intro e; cases e
theorem plus_nil {r : Rx.Re} : Rx.Lang (.plus r) [] ↔ Rx.Lang r [] := by
  constructor
  · intro h
    generalize hz : ([] : List Nat) = z at h
    cases h with
    | plus1 h => exact h
    | @plusS _ u v h1 h2 =>
      have := List.append_eq_nil_iff.1 hz.symm
      rw [this.1] at h1
      rw [this.1, this.2]
      exact h1
  · exact .plus1
theorem opt_is {r : Rx.Re} {s : List Nat} : Rx.Lang (.opt r) s ↔ Rx.Lang r s ∨ s = [] := by
  constructor
  · intro h
    cases h with
    | opt0 => exact .inr rfl
    | optS h => exact .inl h
  · rintro (h | rfl)
    · exact .optS h
    · exact .opt0
theorem grp_lang {a : Rx.Re} (ha : Rx.Sets a) (t : List Nat) : Rx.matchC (Rx.comp (.cat .nil (.junk a))) t = true ↔ Rx.Lang a t := by
  have s3 : Rx.Sets (.cat .nil (.junk a)) := ⟨trivial, ha⟩
  rw [Rx.match_lang _ s3, Rx.lang_cat_nil, Rx.lang_junk]
theorem read_sign {p : List Nat} {r a : Rx.Re} (h : Rx.readA p = some r) (c : Nat) (hc : Rx.repsA r [c] = (.junk a, [])) : Rx.readA (40 :: (p ++ [41, c])) = some (.cat .nil (.junk a)) := Rx.read_group h [c] _ hc
theorem bs_sign (p : List Nat) (c : Nat) (hc : c < 256) : bs (40 :: (p ++ [41, c])) = ⟨#[40]⟩ ++ bs p ++ ⟨#[41, UInt8.ofNat c]⟩ := by
  rw [show (⟨#[40]⟩ : ByteArray) = bs [40] from rfl, show (⟨#[41, UInt8.ofNat c]⟩ : ByteArray) = bs [41, c] from rfl, bs_app, bs_app]; simp
theorem lt_sign {p : List Nat} (bp : ∀ x ∈ p, x < 256) (c : Nat) (hc : c < 256) : ∀ x ∈ 40 :: (p ++ [41, c]), x < 256 := by
  intro x hx
  simp only [List.mem_append, List.mem_cons, List.not_mem_nil, or_false] at hx
  rcases hx with rfl | hx | rfl | rfl
  · omega
  · exact bp x hx
  · omega
  · exact hc
def Mt (c : Rx.Cm) (T : ByteArray) (u : Bool) : Prop := ∀ (B g : Nat) (w : World), IsRx w B g c → Calls Try.prog 28 #[.pointer (some ⟨g, 0, none⟩), .string T] w fun e w' => e = .returned (.bool u) ∧ Below w.heap.size w w'
theorem mt_of {s : List Nat} {r : Rx.Re} (h : Rx.readA s = some r) (hs : s.length ≤ 64) (t : List Nat) (bt : ∀ x ∈ t, x < 256) (ht : t.length ≤ 100) {u : Bool} (hu : Rx.matchC (Rx.comp r) t = u) : Mt (Rx.comp r) (bs t) u := by
  intro B g w H
  have := match_is h hs t bt ht B g w H
  rwa [hu] at this
theorem bs_emp (t : List Nat) : (bs t).toList.isEmpty = decide (t = []) := by
  cases t with
  | nil => rw [bs_list]; rfl
  | cons c r => rw [bs_ne]; simp
set_option maxRecDepth 100000 in
set_option maxHeartbeats 8000000 in
theorem star_in (p s t : List Nat) (r : Rx.Re) (hp : p.length ≤ 60) (hs : s.length ≤ 30) (ht : t.length ≤ 30) (bp : ∀ x ∈ p, x < 256) (bs0 : ∀ x ∈ s, x < 256) (bt : ∀ x ∈ t, x < 256)
    (h1 : Rx.readA p = some r) (w : World) :
    Calls Try.prog 7 #[.string (bs p), .string (bs s), .string (bs t)] w fun e w' => e = .returned (.bool true) ∧ Below w.heap.size w w' := by
  have sp := bs_size p
  have sq := bs_size s
  have st := bs_size t
  have s1 := read_sets h1
  have hS := read_sign h1 42 (a := .star r) (by simp [Rx.repsA])
  have hP := read_sign h1 43 (a := .plus r) (by simp [Rx.repsA])
  have hO := read_sign h1 63 (a := .opt r) (by simp [Rx.repsA])
  have gX := fun t => Rx.match_lang r s1 t
  have gS := fun t => grp_lang (a := .star r) s1 t
  have gP := fun t => grp_lang (a := .plus r) s1 t
  have gO := fun t => grp_lang (a := .opt r) s1 t
  have len : ∀ c : Nat, (40 :: (p ++ [41, c])).length ≤ 64 := fun c => by simp; omega
  have bst : ∀ x ∈ s ++ t, x < 256 := fun x hx => (List.mem_append.1 hx).elim (bs0 x) (bt x)
  have lst : (s ++ t).length ≤ 100 := by simp; omega
  have nil0 : ∀ x ∈ ([] : List Nat), x < 256 := fun x hx => by cases hx
  obtain ⟨a, ea⟩ : ∃ u, Rx.matchC (Rx.comp r) s = u := ⟨_, rfl⟩
  obtain ⟨b, eb⟩ : ∃ u, Rx.matchC (Rx.comp r) t = u := ⟨_, rfl⟩
  obtain ⟨X0, eX⟩ : ∃ u, Rx.matchC (Rx.comp r) [] = u := ⟨_, rfl⟩
  obtain ⟨c, ec⟩ : ∃ u, Rx.matchC (Rx.comp (.cat .nil (.junk (.opt r)))) s = u := ⟨_, rfl⟩
  obtain ⟨S1, eS1⟩ : ∃ u, Rx.matchC (Rx.comp (.cat .nil (.junk (.star r)))) s = u := ⟨_, rfl⟩
  obtain ⟨S2, eS2⟩ : ∃ u, Rx.matchC (Rx.comp (.cat .nil (.junk (.star r)))) t = u := ⟨_, rfl⟩
  obtain ⟨S3, eS3⟩ : ∃ u, Rx.matchC (Rx.comp (.cat .nil (.junk (.star r)))) (s ++ t) = u := ⟨_, rfl⟩
  obtain ⟨P1, eP1⟩ : ∃ u, Rx.matchC (Rx.comp (.cat .nil (.junk (.plus r)))) s = u := ⟨_, rfl⟩
  obtain ⟨P3, eP3⟩ : ∃ u, Rx.matchC (Rx.comp (.cat .nil (.junk (.plus r)))) (s ++ t) = u := ⟨_, rfl⟩
  have eS0 : Rx.matchC (Rx.comp (.cat .nil (.junk (.star r)))) [] = true := (gS []).2 .star0
  have eO0 : Rx.matchC (Rx.comp (.cat .nil (.junk (.opt r)))) [] = true := (gO []).2 .opt0
  have eP0 : Rx.matchC (Rx.comp (.cat .nil (.junk (.plus r)))) [] = X0 := by rw [← eX, Bool.eq_iff_iff, gP, gX]; exact plus_nil
  have FC : Hid (c = (a || decide (s = []))) := Lib.hid (by rw [← ec, ← ea, Bool.eq_iff_iff, gO, Bool.or_eq_true, gX, opt_is]; simp)
  have F1 : Hid (a = true → S1 = true ∧ P1 = true) := Lib.hid (fun h => by
    rw [← ea, gX] at h
    exact ⟨by rw [← eS1, gS]; have := Rx.Lang.starS h .star0; simpa using this, by rw [← eP1, gP]; exact .plus1 h⟩)
  have F2 : Hid (S1 = true → S2 = true → S3 = true) := Lib.hid (fun h k => by
    rw [← eS1, gS] at h
    rw [← eS2, gS] at k
    rw [← eS3, gS]
    exact star_app h rfl k)
  have F3 : Hid (a = true → b = true → P3 = true) := Lib.hid (fun h k => by
    rw [← ea, gX] at h
    rw [← eb, gX] at k
    rw [← eP3, gP]
    exact .plusS h (.plus1 k))
  have F4 : Hid (P1 = true → S1 = true) := Lib.hid (fun h => by
    rw [← eP1, gP] at h
    rw [← eS1, gS]
    exact plus_star h rfl)
  have MS0 := Lib.hid (mt_of hS (len 42) [] nil0 (by simp) eS0)
  have MO0 := Lib.hid (mt_of hO (len 63) [] nil0 (by simp) eO0)
  have MP0 := Lib.hid (mt_of hP (len 43) [] nil0 (by simp) eP0)
  have MX0 := Lib.hid (mt_of h1 (by omega) [] nil0 (by simp) eX)
  have MXs := Lib.hid (mt_of h1 (by omega) s bs0 (by omega) ea)
  have MXt := Lib.hid (mt_of h1 (by omega) t bt (by omega) eb)
  have MOs := Lib.hid (mt_of hO (len 63) s bs0 (by omega) ec)
  have MSs := Lib.hid (mt_of hS (len 42) s bs0 (by omega) eS1)
  have MSt := Lib.hid (mt_of hS (len 42) t bt (by omega) eS2)
  have MSst := Lib.hid (mt_of hS (len 42) (s ++ t) bst lst eS3)
  have MPs := Lib.hid (mt_of hP (len 43) s bs0 (by omega) eP1)
  have MPst := Lib.hid (mt_of hP (len 43) (s ++ t) bst lst eP3)
  have HX := Lib.hid (fun w => comp_yes h1 (by omega) bp w)
  have HS := Lib.hid (fun w => comp_yes hS (len 42) (lt_sign bp 42 (by omega)) w)
  have HP := Lib.hid (fun w => comp_yes hP (len 43) (lt_sign bp 43 (by omega)) w)
  have HO := Lib.hid (fun w => comp_yes hO (len 63) (lt_sign bp 63 (by omega)) w)
  rw [bs_sign p 42 (by omega)] at HS
  rw [bs_sign p 43 (by omega)] at HP
  rw [bs_sign p 63 (by omega)] at HO
  rw [← bs_app] at MSst MPst
  rw [bs_nil] at MS0 MO0 MP0 MX0
  have hz := bs_emp s
  have nX : (X0 != X0) = false := by cases X0 <;> rfl
  have nz : (decide (s = []) != decide (s = [])) = false := by cases decide (s = []) <;> rfl
  clear ea eb eX ec eS1 eS2 eS3 eP1 eP3 eS0 eO0 eP0 gX gS gP gO hS hP hO h1 s1 bst lst nil0 len bp bs0 bt
  have ipI : (p.length : Int) ≤ 60 := by omega
  have isI : (s.length : Int) ≤ 30 := by omega
  have itI : (t.length : Int) ≤ 30 := by omega
  have u42 : (UInt8.ofNat 42) = 42 := rfl
  have u43 : (UInt8.ofNat 43) = 43 := rfl
  have u63 : (UInt8.ofNat 63) = 63 := rfl
  rw [u42] at HS
  rw [u43] at HP
  rw [u63] at HO
  clear u42 u43 u63
  generalize bs p = cp at *
  generalize bs s = cs at *
  generalize bs t = ct at *
  generalize decide (s = []) = z at *
  generalize Rx.comp r = c1 at *
  generalize Rx.comp (.cat .nil (.junk (.star r))) = c2 at *
  generalize Rx.comp (.cat .nil (.junk (.plus r))) = c3 at *
  generalize Rx.comp (.cat .nil (.junk (.opt r))) = c4 at *
  go_enter Try.func7, Try.ntmps7
  go_wp2_with fail
  refine (HX.out _).mono ?_
  rintro e w1 ⟨g1, rfl, hI, hk⟩
  have K1 := Lib.hid hk
  have J1 := Lib.hid hI
  clear hk hI
  go_wp2_with fail
  refine (HS.out _).mono ?_
  rintro e w2 ⟨g2, rfl, hI, hk⟩
  have K2 := Lib.hid (below_then K1.out K1.out.size hk)
  have J2 := Lib.hid hI
  have J1b := Lib.hid (J1.out.below hk)
  clear hk hI
  go_wp2_with fail
  refine (HP.out _).mono ?_
  rintro e w3 ⟨g3, rfl, hI, hk⟩
  have K3 := Lib.hid (below_then K2.out K2.out.size hk)
  have J3 := Lib.hid hI
  have J1c := Lib.hid (J1b.out.below hk)
  have J2c := Lib.hid (J2.out.below hk)
  clear hk hI
  go_wp2_with fail
  refine (HO.out _).mono ?_
  rintro e w4 ⟨g4, rfl, hI, hk⟩
  have K0 := Lib.hid (below_then K3.out K3.out.size hk)
  have I4 := Lib.hid hI
  have I1 := Lib.hid (J1c.out.below hk)
  have I2 := Lib.hid (J2c.out.below hk)
  have I3 := Lib.hid (J3.out.below hk)
  clear hk hI
  have KW := Lib.hid (Below.refl w4.heap.size w4)
  go_wp2_with fail
  refine (MS0.out _ g2 _ (I2.out.below KW.out)).mono ?_
  rintro e w11 ⟨rfl, hk⟩
  have K11 := Lib.hid (below_then KW.out KW.out.size hk)
  clear hk
  go_wp2_with fail
  refine (MO0.out _ g4 _ (I4.out.below K11.out)).mono ?_
  rintro e w12 ⟨rfl, hk⟩
  have K12 := Lib.hid (below_then K11.out K11.out.size hk)
  clear hk
  go_wp2_with fail
  refine (MP0.out _ g3 _ (I3.out.below K12.out)).mono ?_
  rintro e w13 ⟨rfl, hk⟩
  have K13 := Lib.hid (below_then K12.out K12.out.size hk)
  clear hk
  go_wp2_with fail
  refine (MX0.out _ g1 _ (I1.out.below K13.out)).mono ?_
  rintro e w14 ⟨rfl, hk⟩
  have K14 := Lib.hid (below_then K13.out K13.out.size hk)
  clear hk
  go_wp2_with fail
  refine (MXs.out _ g1 _ (I1.out.below K14.out)).mono ?_
  rintro e w15 ⟨rfl, hk⟩
  have K15 := Lib.hid (below_then K14.out K14.out.size hk)
  clear hk
  go_wp2_with fail
  refine (MXt.out _ g1 _ (I1.out.below K15.out)).mono ?_
  rintro e w16 ⟨rfl, hk⟩
  have K16 := Lib.hid (below_then K15.out K15.out.size hk)
  clear hk
  go_wp2_with fail
  refine (MOs.out _ g4 _ (I4.out.below K16.out)).mono ?_
  rintro e w17 ⟨rfl, hk⟩
  have K17 := Lib.hid (below_then K16.out K16.out.size hk)
  clear hk
  cases a with
  | true =>
    obtain ⟨rfl, rfl⟩ := F1.out rfl
    have hc := FC.out
    simp only [Bool.true_or] at hc
    subst hc
    go_wp2_with fail
    refine (MSs.out _ g2 _ (I2.out.below K17.out)).mono ?_
    rintro e w18 ⟨rfl, hk⟩
    have K18 := Lib.hid (below_then K17.out K17.out.size hk)
    clear hk
    go_wp2_with fail
    refine (MPs.out _ g3 _ (I3.out.below K18.out)).mono ?_
    rintro e w19 ⟨rfl, hk⟩
    have K19 := Lib.hid (below_then K18.out K18.out.size hk)
    clear hk
    cases S2 with
    | true =>
      have h3 : S3 = true := by have h := F2.out; simpa using h
      subst h3
      cases b with
      | true =>
        have h4 : P3 = true := by have h := F3.out; simpa using h
        subst h4
        go_wp2_with fail
        refine (MSs.out _ g2 _ (I2.out.below K19.out)).mono ?_
        rintro e w20 ⟨rfl, hk⟩
        have K20 := Lib.hid (below_then K19.out K19.out.size hk)
        clear hk
        go_wp2_with fail
        refine (MSt.out _ g2 _ (I2.out.below K20.out)).mono ?_
        rintro e w21 ⟨rfl, hk⟩
        have K21 := Lib.hid (below_then K20.out K20.out.size hk)
        clear hk
        go_wp2_with fail
        refine (MSst.out _ g2 _ (I2.out.below K21.out)).mono ?_
        rintro e w22 ⟨rfl, hk⟩
        have K22 := Lib.hid (below_then K21.out K21.out.size hk)
        clear hk
        go_wp2_with fail
        refine (MPst.out _ g3 _ (I3.out.below K22.out)).mono ?_
        rintro e w23 ⟨rfl, hk⟩
        have K23 := Lib.hid (below_then K22.out K22.out.size hk)
        clear hk
        go_wp2_with fail
        refine (MPs.out _ g3 _ (I3.out.below K23.out)).mono ?_
        rintro e w24 ⟨rfl, hk⟩
        have K24 := Lib.hid (below_then K23.out K23.out.size hk)
        clear hk
        go_wp2_with fail
        refine (MSs.out _ g2 _ (I2.out.below K24.out)).mono ?_
        rintro e w25 ⟨rfl, hk⟩
        have K25 := Lib.hid (below_then K24.out K24.out.size hk)
        clear hk
        go_wp2_with fail
        refine (awake_any _).mono ?_
        rintro e w9 ⟨rfl, hk⟩
        have KE := Lib.hid (below_then K0.out K0.out.size (below_then K25.out K25.out.size hk))
        clear hk
        go_wp2
        go_ret
        exact ⟨rfl, KE.out⟩
      | false =>
        go_wp2_with fail
        refine (MSs.out _ g2 _ (I2.out.below K19.out)).mono ?_
        rintro e w26 ⟨rfl, hk⟩
        have K26 := Lib.hid (below_then K19.out K19.out.size hk)
        clear hk
        go_wp2_with fail
        refine (MSt.out _ g2 _ (I2.out.below K26.out)).mono ?_
        rintro e w27 ⟨rfl, hk⟩
        have K27 := Lib.hid (below_then K26.out K26.out.size hk)
        clear hk
        go_wp2_with fail
        refine (MSst.out _ g2 _ (I2.out.below K27.out)).mono ?_
        rintro e w28 ⟨rfl, hk⟩
        have K28 := Lib.hid (below_then K27.out K27.out.size hk)
        clear hk
        go_wp2_with fail
        refine (MPs.out _ g3 _ (I3.out.below K28.out)).mono ?_
        rintro e w29 ⟨rfl, hk⟩
        have K29 := Lib.hid (below_then K28.out K28.out.size hk)
        clear hk
        go_wp2_with fail
        refine (MSs.out _ g2 _ (I2.out.below K29.out)).mono ?_
        rintro e w30 ⟨rfl, hk⟩
        have K30 := Lib.hid (below_then K29.out K29.out.size hk)
        clear hk
        go_wp2_with fail
        refine (awake_any _).mono ?_
        rintro e w9 ⟨rfl, hk⟩
        have KE := Lib.hid (below_then K0.out K0.out.size (below_then K30.out K30.out.size hk))
        clear hk
        go_wp2
        go_ret
        exact ⟨rfl, KE.out⟩
    | false =>
      cases b with
      | true =>
        have h4 : P3 = true := by have h := F3.out; simpa using h
        subst h4
        go_wp2_with fail
        refine (MSs.out _ g2 _ (I2.out.below K19.out)).mono ?_
        rintro e w31 ⟨rfl, hk⟩
        have K31 := Lib.hid (below_then K19.out K19.out.size hk)
        clear hk
        go_wp2_with fail
        refine (MSt.out _ g2 _ (I2.out.below K31.out)).mono ?_
        rintro e w32 ⟨rfl, hk⟩
        have K32 := Lib.hid (below_then K31.out K31.out.size hk)
        clear hk
        go_wp2_with fail
        refine (MPst.out _ g3 _ (I3.out.below K32.out)).mono ?_
        rintro e w33 ⟨rfl, hk⟩
        have K33 := Lib.hid (below_then K32.out K32.out.size hk)
        clear hk
        go_wp2_with fail
        refine (MPs.out _ g3 _ (I3.out.below K33.out)).mono ?_
        rintro e w34 ⟨rfl, hk⟩
        have K34 := Lib.hid (below_then K33.out K33.out.size hk)
        clear hk
        go_wp2_with fail
        refine (MSs.out _ g2 _ (I2.out.below K34.out)).mono ?_
        rintro e w35 ⟨rfl, hk⟩
        have K35 := Lib.hid (below_then K34.out K34.out.size hk)
        clear hk
        go_wp2_with fail
        refine (awake_any _).mono ?_
        rintro e w9 ⟨rfl, hk⟩
        have KE := Lib.hid (below_then K0.out K0.out.size (below_then K35.out K35.out.size hk))
        clear hk
        go_wp2
        go_ret
        exact ⟨rfl, KE.out⟩
      | false =>
        go_wp2_with fail
        refine (MSs.out _ g2 _ (I2.out.below K19.out)).mono ?_
        rintro e w36 ⟨rfl, hk⟩
        have K36 := Lib.hid (below_then K19.out K19.out.size hk)
        clear hk
        go_wp2_with fail
        refine (MSt.out _ g2 _ (I2.out.below K36.out)).mono ?_
        rintro e w37 ⟨rfl, hk⟩
        have K37 := Lib.hid (below_then K36.out K36.out.size hk)
        clear hk
        go_wp2_with fail
        refine (MPs.out _ g3 _ (I3.out.below K37.out)).mono ?_
        rintro e w38 ⟨rfl, hk⟩
        have K38 := Lib.hid (below_then K37.out K37.out.size hk)
        clear hk
        go_wp2_with fail
        refine (MSs.out _ g2 _ (I2.out.below K38.out)).mono ?_
        rintro e w39 ⟨rfl, hk⟩
        have K39 := Lib.hid (below_then K38.out K38.out.size hk)
        clear hk
        go_wp2_with fail
        refine (awake_any _).mono ?_
        rintro e w9 ⟨rfl, hk⟩
        have KE := Lib.hid (below_then K0.out K0.out.size (below_then K39.out K39.out.size hk))
        clear hk
        go_wp2
        go_ret
        exact ⟨rfl, KE.out⟩
  | false =>
    have hc := FC.out
    simp only [Bool.false_or] at hc
    subst hc
    cases S1 with
    | false =>
      have h5 : P1 = false := by cases P1 with | false => rfl | true => exact absurd (F4.out rfl) (by decide)
      subst h5
      go_wp2_with fail
      refine (MSs.out _ g2 _ (I2.out.below K17.out)).mono ?_
      rintro e w40 ⟨rfl, hk⟩
      have K40 := Lib.hid (below_then K17.out K17.out.size hk)
      clear hk
      go_wp2_with fail
      refine (MPs.out _ g3 _ (I3.out.below K40.out)).mono ?_
      rintro e w41 ⟨rfl, hk⟩
      have K41 := Lib.hid (below_then K40.out K40.out.size hk)
      clear hk
      go_wp2_with fail
      refine (awake_any _).mono ?_
      rintro e w9 ⟨rfl, hk⟩
      have KE := Lib.hid (below_then K0.out K0.out.size (below_then K41.out K41.out.size hk))
      clear hk
      go_wp2
      go_ret
      exact ⟨rfl, KE.out⟩
    | true =>
      cases S2 with
      | true =>
        have h3 : S3 = true := by have h := F2.out; simpa using h
        subst h3
        cases P1 with
        | true =>
          go_wp2_with fail
          refine (MSs.out _ g2 _ (I2.out.below K17.out)).mono ?_
          rintro e w42 ⟨rfl, hk⟩
          have K42 := Lib.hid (below_then K17.out K17.out.size hk)
          clear hk
          go_wp2_with fail
          refine (MSt.out _ g2 _ (I2.out.below K42.out)).mono ?_
          rintro e w43 ⟨rfl, hk⟩
          have K43 := Lib.hid (below_then K42.out K42.out.size hk)
          clear hk
          go_wp2_with fail
          refine (MSst.out _ g2 _ (I2.out.below K43.out)).mono ?_
          rintro e w44 ⟨rfl, hk⟩
          have K44 := Lib.hid (below_then K43.out K43.out.size hk)
          clear hk
          go_wp2_with fail
          refine (MPs.out _ g3 _ (I3.out.below K44.out)).mono ?_
          rintro e w45 ⟨rfl, hk⟩
          have K45 := Lib.hid (below_then K44.out K44.out.size hk)
          clear hk
          go_wp2_with fail
          refine (MSs.out _ g2 _ (I2.out.below K45.out)).mono ?_
          rintro e w46 ⟨rfl, hk⟩
          have K46 := Lib.hid (below_then K45.out K45.out.size hk)
          clear hk
          go_wp2_with fail
          refine (awake_any _).mono ?_
          rintro e w9 ⟨rfl, hk⟩
          have KE := Lib.hid (below_then K0.out K0.out.size (below_then K46.out K46.out.size hk))
          clear hk
          go_wp2
          go_ret
          exact ⟨rfl, KE.out⟩
        | false =>
          go_wp2_with fail
          refine (MSs.out _ g2 _ (I2.out.below K17.out)).mono ?_
          rintro e w47 ⟨rfl, hk⟩
          have K47 := Lib.hid (below_then K17.out K17.out.size hk)
          clear hk
          go_wp2_with fail
          refine (MSt.out _ g2 _ (I2.out.below K47.out)).mono ?_
          rintro e w48 ⟨rfl, hk⟩
          have K48 := Lib.hid (below_then K47.out K47.out.size hk)
          clear hk
          go_wp2_with fail
          refine (MSst.out _ g2 _ (I2.out.below K48.out)).mono ?_
          rintro e w49 ⟨rfl, hk⟩
          have K49 := Lib.hid (below_then K48.out K48.out.size hk)
          clear hk
          go_wp2_with fail
          refine (MPs.out _ g3 _ (I3.out.below K49.out)).mono ?_
          rintro e w50 ⟨rfl, hk⟩
          have K50 := Lib.hid (below_then K49.out K49.out.size hk)
          clear hk
          go_wp2_with fail
          refine (awake_any _).mono ?_
          rintro e w9 ⟨rfl, hk⟩
          have KE := Lib.hid (below_then K0.out K0.out.size (below_then K50.out K50.out.size hk))
          clear hk
          go_wp2
          go_ret
          exact ⟨rfl, KE.out⟩
      | false =>
        cases P1 with
        | true =>
          go_wp2_with fail
          refine (MSs.out _ g2 _ (I2.out.below K17.out)).mono ?_
          rintro e w51 ⟨rfl, hk⟩
          have K51 := Lib.hid (below_then K17.out K17.out.size hk)
          clear hk
          go_wp2_with fail
          refine (MSt.out _ g2 _ (I2.out.below K51.out)).mono ?_
          rintro e w52 ⟨rfl, hk⟩
          have K52 := Lib.hid (below_then K51.out K51.out.size hk)
          clear hk
          go_wp2_with fail
          refine (MPs.out _ g3 _ (I3.out.below K52.out)).mono ?_
          rintro e w53 ⟨rfl, hk⟩
          have K53 := Lib.hid (below_then K52.out K52.out.size hk)
          clear hk
          go_wp2_with fail
          refine (MSs.out _ g2 _ (I2.out.below K53.out)).mono ?_
          rintro e w54 ⟨rfl, hk⟩
          have K54 := Lib.hid (below_then K53.out K53.out.size hk)
          clear hk
          go_wp2_with fail
          refine (awake_any _).mono ?_
          rintro e w9 ⟨rfl, hk⟩
          have KE := Lib.hid (below_then K0.out K0.out.size (below_then K54.out K54.out.size hk))
          clear hk
          go_wp2
          go_ret
          exact ⟨rfl, KE.out⟩
        | false =>
          go_wp2_with fail
          refine (MSs.out _ g2 _ (I2.out.below K17.out)).mono ?_
          rintro e w55 ⟨rfl, hk⟩
          have K55 := Lib.hid (below_then K17.out K17.out.size hk)
          clear hk
          go_wp2_with fail
          refine (MSt.out _ g2 _ (I2.out.below K55.out)).mono ?_
          rintro e w56 ⟨rfl, hk⟩
          have K56 := Lib.hid (below_then K55.out K55.out.size hk)
          clear hk
          go_wp2_with fail
          refine (MPs.out _ g3 _ (I3.out.below K56.out)).mono ?_
          rintro e w57 ⟨rfl, hk⟩
          have K57 := Lib.hid (below_then K56.out K56.out.size hk)
          clear hk
          go_wp2_with fail
          refine (awake_any _).mono ?_
          rintro e w9 ⟨rfl, hk⟩
          have KE := Lib.hid (below_then K0.out K0.out.size (below_then K57.out K57.out.size hk))
          clear hk
          go_wp2
          go_ret
          exact ⟨rfl, KE.out⟩
set_option maxRecDepth 100000 in
set_option maxHeartbeats 2000000 in
theorem star_bad (p s t : List Nat) (hp : p.length ≤ 60) (hs : s.length ≤ 30) (ht : t.length ≤ 30) (bp : ∀ x ∈ p, x < 256) (h1 : Rx.readA p = none) (w : World) :
    Calls Try.prog 7 #[.string (bs p), .string (bs s), .string (bs t)] w fun e w' => e = .returned (.bool true) ∧ Below w.heap.size w w' := by
  have sp := bs_size p
  have sq := bs_size s
  have st := bs_size t
  have HX := Lib.hid (fun w => comp_no h1 (by omega) bp w)
  clear bp h1
  have ipI : (p.length : Int) ≤ 60 := by omega
  have isI : (s.length : Int) ≤ 30 := by omega
  have itI : (t.length : Int) ≤ 30 := by omega
  generalize bs p = cp at *
  generalize bs s = cs at *
  generalize bs t = ct at *
  go_enter Try.func7, Try.ntmps7
  go_wp2_with fail
  refine (HX.out _).mono ?_
  rintro e w1 ⟨rfl, hk⟩
  have K1 := Lib.hid hk
  clear hk
  go_wp2_with fail
  refine (awake_any _).mono ?_
  rintro e w5 ⟨rfl, hk⟩
  have K5 := Lib.hid (below_then K1.out K1.out.size hk)
  clear hk
  go_wp2
  go_ret
  exact ⟨rfl, K5.out⟩
set_option maxRecDepth 100000 in
set_option maxHeartbeats 2000000 in
/-- One of them is too long. -/
theorem star_far (p s t : List Nat) (h : 30 < s.length ∨ 30 < t.length ∨ 60 < p.length) (lp : p.length ≤ 9223372036854775807) (lq : s.length ≤ 9223372036854775807) (lt : t.length ≤ 9223372036854775807) (w : World) :
    Calls Try.prog 7 #[.string (bs p), .string (bs s), .string (bs t)] w fun e w' => e = .returned (.bool true) ∧ Below w.heap.size w w' := by
  have sp := bs_size p
  have sq := bs_size s
  have st := bs_size t
  generalize bs p = cp at *
  generalize bs s = cs at *
  generalize bs t = ct at *
  by_cases h1 : 30 < s.length
  · have i1 : (30 : Int) < (s.length : Int) := by omega
    go_enter Try.func7, Try.ntmps7
    go_wp2_with fail
    refine (awake_any _).mono ?_
    rintro e w5 ⟨rfl, hk⟩
    go_wp2
    go_ret
    exact ⟨rfl, hk⟩
  · have i1 : (s.length : Int) ≤ 30 := by omega
    by_cases h2 : 30 < t.length
    · have i2 : (30 : Int) < (t.length : Int) := by omega
      go_enter Try.func7, Try.ntmps7
      go_wp2_with fail
      refine (awake_any _).mono ?_
      rintro e w5 ⟨rfl, hk⟩
      go_wp2
      go_ret
      exact ⟨rfl, hk⟩
    · have i2 : (t.length : Int) ≤ 30 := by omega
      have i3 : (60 : Int) < (p.length : Int) := by omega
      go_enter Try.func7, Try.ntmps7
      go_wp2_with fail
      refine (awake_any _).mono ?_
      rintro e w5 ⟨rfl, hk⟩
      go_wp2
      go_ret
      exact ⟨rfl, hk⟩
theorem star_any (p s t : List Nat) (bp : ∀ x ∈ p, x < 256) (bq : ∀ x ∈ s, x < 256) (bt : ∀ x ∈ t, x < 256) (lp : p.length ≤ 9223372036854775807) (lq : s.length ≤ 9223372036854775807) (lt : t.length ≤ 9223372036854775807) (w : World) :
    Calls Try.prog 7 #[.string (bs p), .string (bs s), .string (bs t)] w fun e w' => e = .returned (.bool true) ∧ Below w.heap.size w w' := by
  by_cases h : 30 < s.length ∨ 30 < t.length ∨ 60 < p.length
  · exact star_far p s t h lp lq lt w
  · have a1 : p.length ≤ 60 := by omega
    have a2 : s.length ≤ 30 := by omega
    have a3 : t.length ≤ 30 := by omega
    cases h1 : Rx.readA p with
    | none => exact star_bad p s t a1 a2 a3 bp h1 w
    | some r => exact star_in p s t r a1 a2 a3 bp bq bt h1 w
theorem star_walk (p q t : List UInt8) (lp : p.length ≤ 9223372036854775807) (lq : q.length ≤ 9223372036854775807) (lt : t.length ≤ 9223372036854775807) (w : World) :
    Calls Try.prog 7 #[.string ⟨⟨p⟩⟩, .string ⟨⟨q⟩⟩, .string ⟨⟨t⟩⟩] w fun e w' => e = .returned (.bool true) ∧ Below w.heap.size w w' := by
  have := star_any (nats p) (nats q) (nats t) (nats_lt p) (nats_lt q) (nats_lt t) (by rw [nats_len]; exact lp) (by rw [nats_len]; exact lq) (by rw [nats_len]; exact lt) w
  rwa [bs_nats, bs_nats, bs_nats] at this
set_option maxRecDepth 100000 in
theorem regexStar_lifted (os : Os) (started : os.Started) (H : Type) (enc : TypeId × Value → H) :
    ReturnsInHanded {} Try.checked os 7 .any (Rows.regexStarSpec.pre6 enc Try.prog Try.f7 Rows.regexStarRow.domain false) (Rows.regexStarSpec.post enc Try.prog Try.f7 false true false false) := by
  refine returnsInHanded_of_change (C := Try.checked) tOwn started (by kernel_rfl) Try.func7
    (ChangeSpec.witness6 (enc := enc) (C := Try.checked) false ⟨#[], #[.string ⟨#[]⟩, .string ⟨#[]⟩, .string ⟨#[]⟩], []⟩ 8 (by kernel_rfl) (by kernel_rfl) (by kernel_rfl) (by kernel_rfl)) ?_
  intro W base args ds gs before hval0 hW hcnd _
  have hval : ∀ (j : Nat) t v, Try.f7.params[j]? = some t → args[j]? = some v → Value.okWide Try.prog W .any base t v := hval0
  have hW' := hW
  obtain ⟨p, q, hA0, hV, rfl, hfz, hnd⟩ := hW
  have hA : DataW.TrodAll enc Try.prog W 0 (fun _ => true) true Try.f7.params.toList args.toList ds p := hA0
  rw [Try.params7] at hA hval
  obtain ⟨v0, vs0, d0, ds0, p0, q0, hargs, rfl, rfl, h0, r0⟩ := trodAll_cons hA
  obtain ⟨v1, vs1, d1, ds1, p1, q1, rfl, rfl, rfl, h1, r1⟩ := trodAll_cons r0
  obtain ⟨v2, vs2, d2, ds2, p2, q2, rfl, rfl, rfl, h2, r2⟩ := trodAll_cons r1
  obtain ⟨rfl, rfl, rfl⟩ := trodAll_nil r2
  obtain rfl : args = #[v0, v1, v2] := by cases args; simp_all
  obtain ⟨⟨⟨s0⟩⟩, rfl, rfl, rfl, ws0⟩ := Go.ChangeMaps.open_string Try.underlying9 (hval 0 9 v0 rfl rfl) h0
  obtain ⟨⟨⟨s1⟩⟩, rfl, rfl, rfl, ws1⟩ := Go.ChangeMaps.open_string Try.underlying9 (hval 1 9 v1 rfl rfl) h1
  obtain ⟨⟨⟨s2⟩⟩, rfl, rfl, rfl, ws2⟩ := Go.ChangeMaps.open_string Try.underlying9 (hval 2 9 v2 rfl rfl) h2
  refine (star_walk s0 s1 s2 (by simpa [ByteArray.size, maxLen] using ws0) (by simpa [ByteArray.size, maxLen] using ws1) (by simpa [ByteArray.size, maxLen] using ws2) W).mono fun e W' ⟨he, hb⟩ => ?_
  subst he
  exact ⟨_, rfl, law_post tLaid (by decide +kernel) hW' rfl (by kernel_rfl) Try.underlying4 rfl hb⟩

/-- The closed facts of the row. -/
theorem regexStar_facts : joinedFacts Try.pinned.checked.prog 7 Try.f7 Rows.regexStarSpec Rows.regexStarRow = true := joined_at 7 Try.f7 Rows.regexStarSpec Rows.regexStarRow (by
  intro P hP h1 h2 h3
  unfold joinedFacts
  rw [h1, h2, h3]
  subst hP
  kernel_rfl)
/-- The statement. -/
theorem regexStar_holds : Rows.RegexStarSaid :=
  OpenClaim.holds_of_wide 7 Try.f7 rfl rfl rfl rfl rfl rfl rfl ⟨rfl, rfl, rfl, rfl, rfl⟩ rfl rfl rfl rfl rfl (by kernel_rfl) Try.func7 regexStar_facts
    (of_decide_eq_true (by kernel_rfl)) (by unfold Func.isWrapper; rw [if_neg (of_decide_eq_false (by kernel_rfl))]; exact ⟨rfl, rfl⟩)
    (fun os started H enc _ => regexStar_lifted os started H enc)
#print axioms regexStar_holds
end Go.Proofs.Ytnidjfmbbfoheaa
