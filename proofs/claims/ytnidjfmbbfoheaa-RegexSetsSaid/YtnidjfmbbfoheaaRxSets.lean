/- The statement RegexSets. Conditions: none. -/
import Derived.Test.YtnidjfmbbfoheaaRxBoth
import Derived.Test.YtnidjfmbbfoheaaRxS
import Derived.Test.YtnidjfmbbfoheaaRxOpen
namespace Go.Proofs.Ytnidjfmbbfoheaa
set_option linter.unusedVariables false
set_option linter.unusedSimpArgs false
open Go.ChangeShapes Go.WideShapes Go.ChangeAt Go.RowKit Go.Joins Go.Deep

theorem bs_emp2 (t : List Nat) : (bs t).toList.isEmpty = decide (t = []) := by
  cases t with
  | nil => rw [bs_list]; rfl
  | cons c r => rw [bs_ne]; simp
theorem conv_one (c : Nat) (hc : c < 256) (W : World) : (convert 33 9 (.slice (some ⟨W.heap.size, 0, none⟩) 1 1)).run Try.prog (W.alloc (.cells #[.int .u8 (c : Int)] 5)) = .ok (.string (bs [c])) (W.alloc (.cells #[.int .u8 (c : Int)] 5)) :=
  run_convert_bytes_back (P := Try.prog) _ 33 9 5 ⟨W.heap.size, 0, none⟩ 1 [UInt8.ofNat c] und33 und5 und9 (fun j hj => by
    have hj0 : j = 0 := by simpa using hj
    subst hj0
    rw [Addr.add_mid, Nat.zero_add, Blk.cell (Blk.new W 5 _) 0]
    simp
    omega)
theorem conv_two (c : Nat) (hc : c < 256) (W : World) : (convert 33 9 (.slice (some ⟨W.heap.size, 0, none⟩) 2 2)).run Try.prog (W.alloc (.cells #[.int .u8 (c : Int), .int .u8 (c : Int)] 5)) = .ok (.string (bs [c, c])) (W.alloc (.cells #[.int .u8 (c : Int), .int .u8 (c : Int)] 5)) :=
  run_convert_bytes_back (P := Try.prog) _ 33 9 5 ⟨W.heap.size, 0, none⟩ 2 [UInt8.ofNat c, UInt8.ofNat c] und33 und5 und9 (fun j hj => by
    have hj2 : j = 0 ∨ j = 1 := by simp at hj; omega
    rw [Addr.add_mid, Nat.zero_add, Blk.cell (Blk.new W 5 _) j]
    rcases hj2 with rfl | rfl
    · simp; omega
    · simp; omega)
def letter (x : Int) : Nat := 97 + x.toNat % 26
set_option maxRecDepth 100000 in
set_option maxHeartbeats 4000000 in
theorem sets_law (A0 : Option Addr) (cp : Nat) (l : List Int) (c : Nat) (w : World) (hc : c < 256) (R : Reads w (fun b => b < w.heap.size) 1 A0 l.length (u8s l)) (hl : ∀ x ∈ l, 0 ≤ x ∧ x ≤ 255) :
    Calls Try.prog 8 #[.slice A0 l.length cp, .int .u8 (c : Int)] w fun e w' => e = .returned (.bool true) ∧ Below w.heap.size w w' := by
  obtain ⟨q, hq⟩ : ∃ q, l.map letter = q := ⟨_, rfl⟩
  have hql : q.length = l.length := by rw [← hq, List.length_map]
  have HQ := Lib.hid hq
  have HR := Lib.hid R
  have HL := Lib.hid hl
  have HQL := Lib.hid hql
  clear hq R hl hql
  go_enter Try.func8, Try.ntmps8
  go_wp2
  go_loopg [5, 6, 7] 13 (fun gg s5 s6 s7 wr => ∃ i : Nat, s7 = .int .i64 (i : Int) ∧ i ≤ 12 ∧ i ≤ l.length ∧ 13 - i ≤ gg ∧ s5 = .string (bs (q.take i)) ∧ s6 = .bool (decide (c ∈ q.take i)) ∧ Hid (Below w.heap.size w wr))
  case atStart => exact ⟨0, by go_num, by omega, by omega, by omega, rfl, by simp, Lib.hid (Below.refl _ _)⟩
  case round =>
    obtain ⟨i, rfl, hi, hil, hgg, rfl, rfl, K1⟩ := hrel
    by_cases hlt : i < l.length
    · have hiI : (i : Int) < (l.length : Int) := by omega
      have hi0 : (0 : Int) ≤ (i : Int) := by omega
      by_cases h12 : i < 12
      · have h12I : (i : Int) < 12 := by omega
        obtain ⟨b, o, rfl, hb, hcell⟩ := (HR.out.below (by omega) K1.out).2 (by omega)
        obtain ⟨x, hx⟩ : ∃ x, l[i]? = some x := ⟨_, List.getElem?_eq_getElem hlt⟩
        have hxc := hcell i _ (u8s_get l i x hx)
        have hxb := HL.out x (List.mem_of_getElem? hx)
        obtain ⟨m, rfl⟩ : ∃ m : Nat, x = (m : Int) := ⟨x.toNat, by omega⟩
        have hm : m ≤ 255 := by omega
        have hkb : 97 + m % 26 < 256 := by omega
        have ekk : ((97 + m % 26 : Nat) : Int) = 97 + (m : Int) % 26 := by omega
        have hcv : (convert 33 9 (.slice (some ⟨wr.heap.size, 0, none⟩) 1 1)).run Try.prog (wr.alloc (.cells #[.int .u8 (97 + (m : Int) % 26)] 5)) = .ok (.string (bs [97 + m % 26])) (wr.alloc (.cells #[.int .u8 (97 + (m : Int) % 26)] 5)) :=
          run_convert_bytes_back (P := Try.prog) _ 33 9 5 ⟨wr.heap.size, 0, none⟩ 1 [UInt8.ofNat (97 + m % 26)] und33 und5 und9 (fun j hj => by
            have hj0 : j = 0 := by simpa using hj
            subst hj0
            rw [Addr.add_mid, Nat.zero_add, Blk.cell (Blk.new wr 5 _) 0]
            simp
            omega)
        have hqi : q[i]? = some (97 + m % 26) := by rw [← HQ.out, List.getElem?_map, hx]; rfl
        have htk : q.take (i + 1) = q.take i ++ [97 + m % 26] := by rw [List.take_add_one, hqi]; rfl
        have hsz1 := bs_size (q.take i)
        have hsz2 := bs_size [97 + m % 26]
        have htl : (q.take i).length ≤ 12 := by rw [List.length_take]; omega
        simp only [List.length_singleton] at hsz2
        have hmem : decide (c ∈ q.take (i + 1)) = (decide (c ∈ q.take i) || decide (97 + m % 26 = c)) := by rw [htk]; simp [eq_comm]
        have hbs : bs (q.take (i + 1)) = bs (q.take i) ++ bs [97 + m % 26] := by rw [htk, bs_app]
        have HM := Lib.hid hmem
        have HB := Lib.hid hbs
        clear hmem hbs htk hqi hx hxb
        generalize decide (c ∈ q.take i) = A at *
        generalize bs (q.take i) = t1 at *
        generalize bs [97 + m % 26] = t2 at *
        have heq : ((97 + (m : Int) % 26) == (c : Int)) = decide (97 + m % 26 = c) := by rw [Bool.eq_iff_iff]; simp; omega
        generalize decide (97 + m % 26 = c) = B at *
        clear hcell
        cases A with
        | true =>
          go_wp2
          go_roundg (13 - (i + 1))
          case measure => omega
          case rel => exact ⟨i + 1, by go_num, by omega, by omega, by omega, by rw [HB.out], by rw [HM.out]; rfl, Lib.hid (K1.out.alloc K1.out.size _)⟩
        | false =>
          go_wp2
          go_roundg (13 - (i + 1))
          case measure => omega
          case rel => exact ⟨i + 1, by go_num, by omega, by omega, by omega, by rw [HB.out], by rw [HM.out]; rfl, Lib.hid (K1.out.alloc K1.out.size _)⟩
      · have h12I : ¬ (i : Int) < 12 := by omega
        have hpl : ∀ d ∈ q.take i, 97 ≤ d ∧ d ≤ 122 := fun d hd => by
          have := List.mem_of_mem_take hd
          rw [← HQ.out] at this
          obtain ⟨x, _, rfl⟩ := List.mem_map.1 this
          unfold letter
          omega
        have hsz1 := bs_size (q.take i)
        have htl : (q.take i).length ≤ 12 := by rw [List.length_take]; omega
        have hemp := bs_emp2 (q.take i)
        generalize q.take i = pl at *
        by_cases h0 : pl = []
        · rw [decide_eq_true h0] at hemp
          clear hpl h0
          generalize decide (c ∈ pl) = A at *
          generalize bs pl = t1 at *
          go_wp2_with fail
          refine (awake_any _).mono ?_
          rintro e w5 ⟨rfl, hk⟩
          have K5 := Lib.hid (below_then K1.out K1.out.size hk)
          clear hk
          go_wp2
          go_ret
          exact ⟨rfl, K5.out⟩
        · rw [decide_eq_false h0] at hemp
          have hemp2 : (!(bs pl).toList.isEmpty) = true := by rw [hemp]; rfl
          have hb : ∀ d ∈ pl, d < 256 := fun d hd => by have := hpl d hd; omega
          have hc1 : ∀ x ∈ [c], x < 256 := fun x hx => by rw [List.mem_singleton] at hx; omega
          have hc2 : ∀ x ∈ [c, c], x < 256 := fun x hx => by simp only [List.mem_cons, List.not_mem_nil, or_false] at hx; omega
          have r1 := Rx.read_lets hpl h0
          have r2 := Rx.read_nots hpl h0
          have H1 := Lib.hid (fun w => like_any (91 :: (pl ++ [93])) [c] (by intro x hx; simp only [List.mem_append, List.mem_cons, List.not_mem_nil, or_false] at hx; rcases hx with rfl | hx | rfl; omega; exact hb x hx; omega) (by simp; omega) hc1 (by simp) w)
          have H2 := Lib.hid (fun w => like_any (91 :: 94 :: (pl ++ [93])) [c] (by intro x hx; simp only [List.mem_append, List.mem_cons, List.not_mem_nil, or_false] at hx; rcases hx with rfl | rfl | hx | rfl; omega; omega; exact hb x hx; omega) (by simp; omega) hc1 (by simp) w)
          have H3 := Lib.hid (fun w => like_any (91 :: (pl ++ [93])) [c, c] (by intro x hx; simp only [List.mem_append, List.mem_cons, List.not_mem_nil, or_false] at hx; rcases hx with rfl | hx | rfl; omega; exact hb x hx; omega) (by simp; omega) hc2 (by simp) w)
          simp only [like_read r1 (show (91 :: (pl ++ [93])).length ≤ 64 by simp; omega), Rx.match_lets pl c hc] at H1
          simp only [like_read r2 (show (91 :: 94 :: (pl ++ [93])).length ≤ 64 by simp; omega), Rx.match_nots pl c hc] at H2
          simp only [like_read r1 (show (91 :: (pl ++ [93])).length ≤ 64 by simp; omega), Rx.match_two pl c c] at H3
          have E1 : bs (91 :: (pl ++ [93])) = ⟨#[91]⟩ ++ bs pl ++ ⟨#[93]⟩ := by rw [show (⟨#[91]⟩ : ByteArray) = bs [91] from rfl, show (⟨#[93]⟩ : ByteArray) = bs [93] from rfl, bs_app, bs_app]; simp
          have E2 : bs (91 :: 94 :: (pl ++ [93])) = ⟨#[91, 94]⟩ ++ bs pl ++ ⟨#[93]⟩ := by rw [show (⟨#[91, 94]⟩ : ByteArray) = bs [91, 94] from rfl, show (⟨#[93]⟩ : ByteArray) = bs [93] from rfl, bs_app, bs_app]; simp
          rw [E1] at H1 H3
          rw [E2] at H2
          have hv1 := conv_one c hc
          have hv2 := conv_two c hc
          clear E1 E2 r1 r2 hc1 hc2 hb hpl h0
          generalize decide (c ∈ pl) = A at *
          generalize bs pl = t1 at *
          generalize bs [c] = u1 at *
          generalize bs [c, c] = u2 at *
          go_wp2_with fail
          refine (H1.out _).mono ?_
          rintro e w2 ⟨rfl, hk⟩
          have K2 := Lib.hid (below_then (K1.out.alloc K1.out.size _) (K1.out.alloc K1.out.size _).size hk)
          clear hk
          go_wp2_with fail
          refine (H2.out _).mono ?_
          rintro e w3 ⟨rfl, hk⟩
          have K3 := Lib.hid (below_then (K2.out.alloc K2.out.size _) (K2.out.alloc K2.out.size _).size hk)
          clear hk
          go_wp2_with fail
          refine (H3.out _).mono ?_
          rintro e w4 ⟨rfl, hk⟩
          have K4 := Lib.hid (below_then (K3.out.alloc K3.out.size _) (K3.out.alloc K3.out.size _).size hk)
          clear hk
          cases A
          all_goals
            go_wp2_with fail
            refine (awake_any _).mono ?_
            rintro e w5 ⟨rfl, hk⟩
            have K5 := Lib.hid (below_then K4.out K4.out.size hk)
            clear hk
            go_wp2
            go_ret
            exact ⟨rfl, K5.out⟩
    · have hnI : ¬ (i : Int) < (l.length : Int) := by omega
      have hpl : ∀ d ∈ q.take i, 97 ≤ d ∧ d ≤ 122 := fun d hd => by
        have := List.mem_of_mem_take hd
        rw [← HQ.out] at this
        obtain ⟨x, _, rfl⟩ := List.mem_map.1 this
        unfold letter
        omega
      have hsz1 := bs_size (q.take i)
      have htl : (q.take i).length ≤ 12 := by rw [List.length_take]; omega
      have hemp := bs_emp2 (q.take i)
      generalize q.take i = pl at *
      by_cases h0 : pl = []
      · rw [decide_eq_true h0] at hemp
        clear hpl h0
        generalize decide (c ∈ pl) = A at *
        generalize bs pl = t1 at *
        go_wp2_with fail
        refine (awake_any _).mono ?_
        rintro e w5 ⟨rfl, hk⟩
        have K5 := Lib.hid (below_then K1.out K1.out.size hk)
        clear hk
        go_wp2
        go_ret
        exact ⟨rfl, K5.out⟩
      · rw [decide_eq_false h0] at hemp
        have hemp2 : (!(bs pl).toList.isEmpty) = true := by rw [hemp]; rfl
        have hb : ∀ d ∈ pl, d < 256 := fun d hd => by have := hpl d hd; omega
        have hc1 : ∀ x ∈ [c], x < 256 := fun x hx => by rw [List.mem_singleton] at hx; omega
        have hc2 : ∀ x ∈ [c, c], x < 256 := fun x hx => by simp only [List.mem_cons, List.not_mem_nil, or_false] at hx; omega
        have r1 := Rx.read_lets hpl h0
        have r2 := Rx.read_nots hpl h0
        have H1 := Lib.hid (fun w => like_any (91 :: (pl ++ [93])) [c] (by intro x hx; simp only [List.mem_append, List.mem_cons, List.not_mem_nil, or_false] at hx; rcases hx with rfl | hx | rfl; omega; exact hb x hx; omega) (by simp; omega) hc1 (by simp) w)
        have H2 := Lib.hid (fun w => like_any (91 :: 94 :: (pl ++ [93])) [c] (by intro x hx; simp only [List.mem_append, List.mem_cons, List.not_mem_nil, or_false] at hx; rcases hx with rfl | rfl | hx | rfl; omega; omega; exact hb x hx; omega) (by simp; omega) hc1 (by simp) w)
        have H3 := Lib.hid (fun w => like_any (91 :: (pl ++ [93])) [c, c] (by intro x hx; simp only [List.mem_append, List.mem_cons, List.not_mem_nil, or_false] at hx; rcases hx with rfl | hx | rfl; omega; exact hb x hx; omega) (by simp; omega) hc2 (by simp) w)
        simp only [like_read r1 (show (91 :: (pl ++ [93])).length ≤ 64 by simp; omega), Rx.match_lets pl c hc] at H1
        simp only [like_read r2 (show (91 :: 94 :: (pl ++ [93])).length ≤ 64 by simp; omega), Rx.match_nots pl c hc] at H2
        simp only [like_read r1 (show (91 :: (pl ++ [93])).length ≤ 64 by simp; omega), Rx.match_two pl c c] at H3
        have E1 : bs (91 :: (pl ++ [93])) = ⟨#[91]⟩ ++ bs pl ++ ⟨#[93]⟩ := by rw [show (⟨#[91]⟩ : ByteArray) = bs [91] from rfl, show (⟨#[93]⟩ : ByteArray) = bs [93] from rfl, bs_app, bs_app]; simp
        have E2 : bs (91 :: 94 :: (pl ++ [93])) = ⟨#[91, 94]⟩ ++ bs pl ++ ⟨#[93]⟩ := by rw [show (⟨#[91, 94]⟩ : ByteArray) = bs [91, 94] from rfl, show (⟨#[93]⟩ : ByteArray) = bs [93] from rfl, bs_app, bs_app]; simp
        rw [E1] at H1 H3
        rw [E2] at H2
        have hv1 := conv_one c hc
        have hv2 := conv_two c hc
        clear E1 E2 r1 r2 hc1 hc2 hb hpl h0
        generalize decide (c ∈ pl) = A at *
        generalize bs pl = t1 at *
        generalize bs [c] = u1 at *
        generalize bs [c, c] = u2 at *
        go_wp2_with fail
        refine (H1.out _).mono ?_
        rintro e w2 ⟨rfl, hk⟩
        have K2 := Lib.hid (below_then (K1.out.alloc K1.out.size _) (K1.out.alloc K1.out.size _).size hk)
        clear hk
        go_wp2_with fail
        refine (H2.out _).mono ?_
        rintro e w3 ⟨rfl, hk⟩
        have K3 := Lib.hid (below_then (K2.out.alloc K2.out.size _) (K2.out.alloc K2.out.size _).size hk)
        clear hk
        go_wp2_with fail
        refine (H3.out _).mono ?_
        rintro e w4 ⟨rfl, hk⟩
        have K4 := Lib.hid (below_then (K3.out.alloc K3.out.size _) (K3.out.alloc K3.out.size _).size hk)
        clear hk
        cases A
        all_goals
          go_wp2_with fail
          refine (awake_any _).mono ?_
          rintro e w5 ⟨rfl, hk⟩
          have K5 := Lib.hid (below_then K4.out K4.out.size hk)
          clear hk
          go_wp2
          go_ret
          exact ⟨rfl, K5.out⟩
theorem sets_walk (A0 : Option Addr) (cp : Nat) (l : List Int) (y : Int) (w : World) (hy : 0 ≤ y ∧ y ≤ 255) (R : Reads w (fun b => b < w.heap.size) 1 A0 l.length (u8s l)) (hl : ∀ x ∈ l, 0 ≤ x ∧ x ≤ 255) :
    Calls Try.prog 8 #[.slice A0 l.length cp, .int .u8 y] w fun e w' => e = .returned (.bool true) ∧ Below w.heap.size w w' := by
  obtain ⟨c, rfl⟩ : ∃ c : Nat, y = (c : Int) := ⟨y.toNat, by omega⟩
  exact sets_law A0 cp l c w (by omega) R hl
set_option maxRecDepth 100000 in
theorem regexSets_lifted (os : Os) (started : os.Started) (H : Type) (enc : TypeId × Value → H) :
    ReturnsInHanded {} Try.checked os 8 .any (Rows.regexSetsSpec.pre6 enc Try.prog Try.f8 Rows.regexSetsRow.domain false) (Rows.regexSetsSpec.post enc Try.prog Try.f8 false true false false) := by
  refine returnsInHanded_of_change (C := Try.checked) tOwn started (by kernel_rfl) Try.func8
    (ChangeSpec.witness6 (enc := enc) (C := Try.checked) false ⟨#[], #[.slice none 0 0, .int .u8 0], []⟩ 8 (by kernel_rfl) (by kernel_rfl) (by kernel_rfl) (by kernel_rfl)) ?_
  intro W base args ds gs before hval0 hW hcnd _
  have hval : ∀ (j : Nat) t v, Try.f8.params[j]? = some t → args[j]? = some v → Value.okWide Try.prog W .any base t v := hval0
  have hW' := hW
  obtain ⟨p, q, hA0, hV, rfl, hfz, hnd⟩ := hW
  have hA : DataW.TrodAll enc Try.prog W 0 (fun _ => true) true Try.f8.params.toList args.toList ds p := hA0
  rw [Try.params8] at hA hval
  obtain ⟨v0, vs0, d0, ds0, p0, q0, hargs, rfl, rfl, h0, r0⟩ := trodAll_cons hA
  obtain ⟨v1, vs1, d1, ds1, p1, q1, rfl, rfl, rfl, h1, r1⟩ := trodAll_cons r0
  obtain ⟨rfl, rfl, rfl⟩ := trodAll_nil r1
  obtain rfl : args = #[v0, v1] := by cases args; simp_all
  obtain ⟨Al, cl, l, rfl, rl, ml⟩ := open_u8s (hval 0 33 v0 rfl rfl) h0
  obtain ⟨y, rfl, rfl, rfl, wy⟩ := open_int Try.underlying5 (hval 1 5 v1 rfl rfl) h1
  refine (sets_walk Al cl l y W (bounds_u8 wy) rl ml).mono fun e W' ⟨he, hb⟩ => ?_
  subst he
  exact ⟨_, rfl, law_post tLaid (by decide +kernel) hW' rfl (by kernel_rfl) Try.underlying4 rfl hb⟩

/-- The closed facts of the row. -/
theorem regexSets_facts : joinedFacts Try.pinned.checked.prog 8 Try.f8 Rows.regexSetsSpec Rows.regexSetsRow = true := joined_at 8 Try.f8 Rows.regexSetsSpec Rows.regexSetsRow (by
  intro P hP h1 h2 h3
  unfold joinedFacts
  rw [h1, h2, h3]
  subst hP
  kernel_rfl)
/-- The statement. -/
theorem regexSets_holds : Rows.RegexSetsSaid :=
  OpenClaim.holds_of_wide 8 Try.f8 rfl rfl rfl rfl rfl rfl rfl ⟨rfl, rfl, rfl, rfl, rfl⟩ rfl rfl rfl rfl rfl (by kernel_rfl) Try.func8 regexSets_facts
    (of_decide_eq_true (by kernel_rfl)) (by unfold Func.isWrapper; rw [if_neg (of_decide_eq_false (by kernel_rfl))]; exact ⟨rfl, rfl⟩)
    (fun os started H enc _ => regexSets_lifted os started H enc)
#print axioms regexSets_holds
end Go.Proofs.Ytnidjfmbbfoheaa
