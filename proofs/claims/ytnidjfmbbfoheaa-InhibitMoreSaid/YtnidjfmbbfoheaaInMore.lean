/- The statement InhibitMore. Conditions: none. -/
import Derived.Test.YtnidjfmbbfoheaaInF
import Derived.Test.YtnidjfmbbfoheaaInSelf
namespace Go.Proofs.Ytnidjfmbbfoheaa
set_option linter.unusedVariables false
set_option linter.unusedSimpArgs false
open Go.ChangeShapes Go.WideShapes Go.ChangeAt Go.RowKit Go.Joins Go.Deep Go.BigFrame

theorem mutedB_imp {rs rs' : List Rl} {ls ls' : List PR} {t : List Pr} (h1 : ∀ r ∈ rs', r ∈ rs) (h2 : ∀ l ∈ ls', l ∈ ls) (h : mutedB rs' ls' t = true) : mutedB rs ls t = true := by
  unfold mutedB at *
  rw [List.any_eq_true] at *
  obtain ⟨r, hr, h⟩ := h
  rw [List.any_eq_true] at h
  obtain ⟨l, hl, h⟩ := h
  exact ⟨r, h1 r hr, List.any_eq_true.2 ⟨l, h2 l hl, h⟩⟩
theorem mutedB_nil (rs : List Rl) (t : List Pr) : mutedB rs [] t = false := by
  unfold mutedB
  rw [List.any_eq_false]
  intro r _
  simp
theorem light6_all {rs : List Rl} {ls : List PR} (h : light6B rs ls = true) : rs.length ≤ 12 ∧ ls.length ≤ 40 ∧ (∀ p ∈ ls, p.Light) ∧ ∀ r ∈ rs, r.Small := by
  unfold light6B at h
  simp only [Bool.and_eq_true, decide_eq_true_eq, List.all_eq_true] at h
  exact ⟨h.1.1.1, h.1.1.2, fun p hp => light_pr_is (h.1.2 p hp), fun r hr => few_small (h.2 r hr)⟩
theorem light6_one {t : PR} (h : light6B [] [t] = true) : t.Light := (light6_all h).2.2.1 t (by simp)
theorem reads_one1 {W : World} {g : Nat} {a : PR} (h : Blk W g 38 #[a.val]) : Reads W (fun b => b < W.heap.size) 1 (some ⟨g, 0, none⟩) [a].length ([a].flatMap fun p : PR => [p.val]) := reads_blk_lt h rfl rfl
theorem reads_take {w : World} {S : Nat → Prop} {k : Nat} {A : Option Addr} {n : Nat} {xs : List Value} (h : Reads w S k A n xs) (i : Nat) (hi : i ≤ n) : Reads w S k A i (xs.take (i * k)) := by
  refine ⟨by rw [List.length_take, h.1]; exact Nat.min_eq_left (Nat.mul_le_mul_right k hi), fun h0 => ?_⟩
  obtain ⟨b, o, e, hb, hc⟩ := h.2 (by omega)
  exact ⟨b, o, e, hb, fun j u hu => hc j u (by
    rw [List.getElem?_take] at hu
    split at hu
    · exact hu
    · cases hu)⟩
theorem reads_drop {w : World} {S : Nat → Prop} {k : Nat} {A : Option Addr} {n : Nat} {xs : List Value} (h : Reads w S k A n xs) (i : Nat) (hi : i ≤ n) : Reads w S k (A.map fun x => x.add (i * k)) (n - i) (xs.drop (i * k)) := by
  refine ⟨by rw [List.length_drop, h.1, Nat.sub_mul], fun h0 => ?_⟩
  obtain ⟨b, o, e, hb, hc⟩ := h.2 (by omega)
  refine ⟨b, o + i * k, by rw [e]; simp [Addr.add_mid], hb, fun j u hu => ?_⟩
  rw [List.getElem?_drop] at hu
  have := hc _ u hu
  rwa [← Nat.add_assoc] at this
theorem reads_zero {w : World} {S : Nat → Prop} {k : Nat} {A : Option Addr} : Reads w S k A 0 [] := Reads.nil _ _ _ _
theorem flat_take {α : Type} (f : α → List Value) (k : Nat) (hf : ∀ a, (f a).length = k) (l : List α) (i : Nat) : (l.flatMap f).take (i * k) = (l.take i).flatMap f := by
  induction l generalizing i with
  | nil => simp
  | cons a r ih =>
    cases i with
    | zero => simp
    | succ i =>
      rw [List.take_succ_cons, List.flatMap_cons, List.flatMap_cons, List.take_append, hf, show (i + 1) * k - k = i * k by rw [Nat.add_mul]; omega, ih, List.take_of_length_le (by rw [hf, Nat.add_mul]; omega)]
theorem flat_drop {α : Type} (f : α → List Value) (k : Nat) (hf : ∀ a, (f a).length = k) (l : List α) (i : Nat) : (l.flatMap f).drop (i * k) = (l.drop i).flatMap f := by
  induction l generalizing i with
  | nil => simp
  | cons a r ih =>
    cases i with
    | zero => simp
    | succ i =>
      rw [List.drop_succ_cons, List.flatMap_cons, List.drop_append, hf, show (i + 1) * k - k = i * k by rw [Nat.add_mul]; omega, ih, List.drop_eq_nil_of_le (by rw [hf, Nat.add_mul]; omega), List.nil_append]
set_option maxRecDepth 100000 in
set_option maxHeartbeats 4000000 in
theorem more_main (Ar : Option Addr) (cr : Nat) (rs : List Rl) (Al : Option Addr) (cl : Nat) (ls : List PR) (t : PR) (w : World) (hcr : rs.length ≤ cr) (hcl : ls.length ≤ cl) (hcr' : cr ≤ 9223372036854775807) (hcl' : cl ≤ 9223372036854775807)
    (Rr : Reads w (fun b => b < w.heap.size) 3 Ar rs.length (rs.flatMap Rl.cells)) (Rs : Reads w (fun b => b < w.heap.size) 1 Al ls.length (ls.flatMap fun p : PR => [p.val])) (hr : ∀ r ∈ rs, r.In w) (hl : ∀ p ∈ ls, p.In w) (ht : t.In w) (X : light6B rs ls = true) (Y : light6B [] [t] = true) :
    Calls Try.prog 15 #[.slice Ar rs.length cr, .slice Al ls.length cl, t.val] w fun e w' => e = .returned (.bool true) ∧ Below w.heap.size w w' := by
  obtain ⟨n12, n40, hli, hsm⟩ := light6_all X
  have hlt := light6_one Y
  have HL1 := Lib.hid (light6_any Ar cr rs Al cl ls w Rr Rs hl)
  rw [X] at HL1
  have HL2 : Hid (∀ (w' : World) (g : Nat), Below w.heap.size w w' → Blk w' g 38 #[t.val] → Calls Try.prog 33 #[.slice none 0 0, .slice (some ⟨g, 0, none⟩) 1 1] w' fun e w2 => e = .returned (.bool true) ∧ Below w'.heap.size w' w2) :=
    Lib.hid (fun w' g hb h1 => by
      have := light6_any none 0 [] _ 1 [t] w' (Reads.nil _ _ _ _) (reads_one1 h1) (fun p hp => by rw [List.mem_singleton] at hp; subst hp; exact ht.below hb)
      rw [Y] at this
      exact this)
  have HM : Hid (∀ (A1 : Option Addr) (c1 : Nat) (rs' : List Rl) (A2 : Option Addr) (c2 : Nat) (ls' : List PR) (w' : World), Below w.heap.size w w' → (∀ r ∈ rs', r ∈ rs) → (∀ l ∈ ls', l ∈ ls) → rs'.length ≤ 12 → ls'.length ≤ 40 → Reads w' (fun b => b < w'.heap.size) 3 A1 rs'.length (rs'.flatMap Rl.cells) → Reads w' (fun b => b < w'.heap.size) 1 A2 ls'.length (ls'.flatMap fun p : PR => [p.val]) →
      Calls Try.prog 41 #[.slice A1 rs'.length c1, .slice A2 ls'.length c2, t.val] w' fun e w2 => e = .returned (.bool (mutedB rs' ls' t.l)) ∧ Below w'.heap.size w' w2) :=
    Lib.hid (fun A1 c1 rs' A2 c2 ls' w' hb h1 h2 l1 l2 R1 R2 => muted_any A1 c1 rs' A2 c2 ls' t w' (by omega) (by omega) R1 R2 (fun r hr' => ⟨(hr r (h1 r hr')).below hb, hsm r (h1 r hr')⟩) (fun p hp => ⟨(hl p (h2 p hp)).below hb, hli p (h2 p hp)⟩) ⟨ht.below hb, hlt⟩)
  have HRr := Lib.hid Rr
  have HRs := Lib.hid Rs
  clear X Y hli hsm hlt Rr Rs hr hl ht
  have i12 : ¬ (12 : Int) < (rs.length : Int) := by omega
  unfold PR.val at HL2 HM
  unfold PR.val
  go_enter Try.func15, Try.ntmps15
  go_wp2_with fail
  refine HL1.out.mono ?_
  rintro e w1 ⟨rfl, hk⟩
  have K1 := Lib.hid hk
  clear hk
  have K1' := Lib.hid (K1.out.alloc K1.out.size (.cells #[.slice t.A t.l.length t.c] 38))
  go_wp2_with fail
  refine (HL2.out _ _ K1'.out (Blk.new w1 38 _)).mono ?_
  rintro e w2 ⟨rfl, hk⟩
  have K2 := Lib.hid (below_then K1'.out K1'.out.size hk)
  clear hk
  go_wp2_with fail
  refine (HM.out Ar cr rs Al cl ls _ K2.out (fun _ h => h) (fun _ h => h) n12 n40 ((HRr.out.below (by omega) K2.out).imp (fun b hb => Nat.lt_of_lt_of_le hb K2.out.size)) ((HRs.out.below (by omega) K2.out).imp (fun b hb => Nat.lt_of_lt_of_le hb K2.out.size))).mono ?_
  rintro e w3 ⟨rfl, hk⟩
  have K3 := Lib.hid (below_then K2.out K2.out.size hk)
  clear hk
  obtain ⟨G, hG⟩ : ∃ G, mutedB rs ls t.l = G := ⟨_, rfl⟩
  rw [hG]
  have HG := Lib.hid hG
  clear hG
  go_wp2
  have HT : Hid (∀ (i : Nat), i ≤ ls.length → ∀ (c2 : Nat) (w' : World), Below w.heap.size w w' → ∃ Q, (Q = true → G = true) ∧ Calls Try.prog 41 #[.slice Ar rs.length cr, .slice Al i c2, .slice t.A t.l.length t.c] w' fun e w2 => e = .returned (.bool Q) ∧ Below w'.heap.size w' w2) :=
    Lib.hid (fun i hi c2 w' hb => ⟨mutedB rs (ls.take i) t.l, fun h => by rw [← HG.out]; exact mutedB_imp (fun _ h => h) (fun _ h => List.mem_of_mem_take h) h, by
      have h1 := HM.out Ar cr rs Al c2 (ls.take i) _ hb (fun _ h => h) (fun _ h => List.mem_of_mem_take h) n12 (by rw [List.length_take]; omega) ((HRr.out.below (by omega) hb).imp (fun b hb' => Nat.lt_of_lt_of_le hb' hb.size)) (by
        have := reads_take ((HRs.out.below (by omega) hb).imp (fun b hb' => Nat.lt_of_lt_of_le hb' hb.size)) i hi
        rw [flat_take _ 1 (fun _ => rfl)] at this
        rw [show (ls.take i).length = i by rw [List.length_take]; omega]
        exact this)
      rw [show (ls.take i).length = i by rw [List.length_take]; omega] at h1
      exact h1⟩)
  have HD : Hid (∀ (i : Nat), i ≤ ls.length → ∀ (w' : World), Below w.heap.size w w' → ∃ Q, (Q = true → G = true) ∧ (∀ c2, Calls Try.prog 41 #[.slice Ar rs.length cr, .slice (Al.map (fun x => x.add i)) (ls.length - i) c2, .slice t.A t.l.length t.c] w' fun e w2 => e = .returned (.bool Q) ∧ Below w'.heap.size w' w2) ∧ (ls.length - i = 0 → ∀ c2, Calls Try.prog 41 #[.slice Ar rs.length cr, .slice Al 0 c2, .slice t.A t.l.length t.c] w' fun e w2 => e = .returned (.bool Q) ∧ Below w'.heap.size w' w2)) := by
    have hd : ∀ (i : Nat), i ≤ ls.length → ∀ (A2 : Option Addr) (c2 : Nat) (w' : World), Below w.heap.size w w' → (A2 = Al.map (fun x => x.add i) ∨ ls.length - i = 0) → Calls Try.prog 41 #[.slice Ar rs.length cr, .slice A2 (ls.length - i) c2, .slice t.A t.l.length t.c] w' fun e w2 => e = .returned (.bool (mutedB rs (ls.drop i) t.l)) ∧ Below w'.heap.size w' w2 := by
      intro i hi A2 c2 w' hb hA
      have h1 := HM.out Ar cr rs A2 c2 (ls.drop i) _ hb (fun _ h => h) (fun _ h => List.mem_of_mem_drop h) n12 (by rw [List.length_drop]; omega) ((HRr.out.below (by omega) hb).imp (fun b hb' => Nat.lt_of_lt_of_le hb' hb.size)) (by
        rw [List.length_drop]
        rcases hA with rfl | hz
        · have := reads_drop ((HRs.out.below (by omega) hb).imp (fun b hb' => Nat.lt_of_lt_of_le hb' hb.size)) i hi
          rw [flat_drop _ 1 (fun _ => rfl), Nat.mul_one] at this
          exact this
        · rw [hz, List.drop_eq_nil_of_le (by omega)]
          exact Reads.nil _ _ _ _)
      rw [List.length_drop] at h1
      exact h1
    exact Lib.hid (fun i hi w' hb => ⟨mutedB rs (ls.drop i) t.l, fun h => by rw [← HG.out]; exact mutedB_imp (fun _ h => h) (fun _ h => List.mem_of_mem_drop h) h, fun c2 => hd i hi _ c2 w' hb (.inl rfl), fun hz c2 => by have := hd i hi Al c2 w' hb (.inr hz); rw [hz] at this; exact this⟩)
  have HU : Hid (∀ (i : Nat), i ≤ rs.length → ∀ (c2 : Nat) (w' : World), Below w.heap.size w w' → ∃ Q, (Q = true → G = true) ∧ Calls Try.prog 41 #[.slice Ar i c2, .slice Al ls.length cl, .slice t.A t.l.length t.c] w' fun e w2 => e = .returned (.bool Q) ∧ Below w'.heap.size w' w2) :=
    Lib.hid (fun i hi c2 w' hb => ⟨mutedB (rs.take i) ls t.l, fun h => by rw [← HG.out]; exact mutedB_imp (fun _ h => List.mem_of_mem_take h) (fun _ h => h) h, by
      have h1 := HM.out Ar c2 (rs.take i) Al cl ls _ hb (fun _ h => List.mem_of_mem_take h) (fun _ h => h) (by rw [List.length_take]; omega) n40 (by
        have := reads_take ((HRr.out.below (by omega) hb).imp (fun b hb' => Nat.lt_of_lt_of_le hb' hb.size)) i hi
        rw [flat_take _ 3 (fun _ => rfl)] at this
        rw [show (rs.take i).length = i by rw [List.length_take]; omega]
        exact this) ((HRs.out.below (by omega) hb).imp (fun b hb' => Nat.lt_of_lt_of_le hb' hb.size))
      rw [show (rs.take i).length = i by rw [List.length_take]; omega] at h1
      exact h1⟩)
  have HN1 : Hid (∀ (w' : World), Below w.heap.size w w' → Calls Try.prog 41 #[.slice none 0 0, .slice Al ls.length cl, .slice t.A t.l.length t.c] w' fun e w2 => e = .returned (.bool false) ∧ Below w'.heap.size w' w2) :=
    Lib.hid (fun w' hb => HM.out none 0 [] Al cl ls _ hb (fun _ h => by cases h) (fun _ h => h) (by simp) n40 (Reads.nil _ _ _ _) ((HRs.out.below (by omega) hb).imp (fun b hb' => Nat.lt_of_lt_of_le hb' hb.size)))
  have HN2 : Hid (∀ (w' : World), Below w.heap.size w w' → Calls Try.prog 41 #[.slice Ar rs.length cr, .slice none 0 0, .slice t.A t.l.length t.c] w' fun e w2 => e = .returned (.bool false) ∧ Below w'.heap.size w' w2) :=
    Lib.hid (fun w' hb => by
      have := HM.out Ar cr rs none 0 [] _ hb (fun _ h => h) (fun _ h => by cases h) n12 (by simp) ((HRr.out.below (by omega) hb).imp (fun b hb' => Nat.lt_of_lt_of_le hb' hb.size)) (Reads.nil _ _ _ _)
      rw [mutedB_nil] at this
      exact this)
  clear HL1 HL2 HM HRr HRs HG
  go_loopg [8] (ls.length + 1) (fun gg s8 wr => ∃ i : Nat, s8 = .int .i64 (i : Int) ∧ i ≤ ls.length + 1 ∧ ls.length + 1 - i ≤ gg ∧ Hid (Below w.heap.size w wr))
  case atStart => exact ⟨0, by go_num, by omega, by omega, K3⟩
  case round =>
    obtain ⟨i, rfl, hi, hgg, K4⟩ := hrel
    by_cases hlt : i ≤ ls.length
    · have hiI : (i : Int) ≤ (ls.length : Int) := by omega
      have hi0 : (0 : Int) ≤ (i : Int) := by omega
      by_cases he : cl = i
      · obtain rfl : cl = i := he
        go_wp2_with fail
        all_goals
          obtain ⟨Q1, hI1, hc1⟩ := HT.out cl hlt _ _ K4.out
          have HI1 := Lib.hid hI1
          clear hI1
          refine hc1.mono ?_
          rintro e w5 ⟨rfl, hk⟩
          have K5 := Lib.hid (below_then K4.out K4.out.size hk)
          clear hk hc1
          cases G with
          | true =>
            cases Q1
            all_goals
              go_wp2_with fail
              all_goals
                obtain ⟨Q2, hI2, hc2, hc3⟩ := HD.out cl hlt _ K5.out
                clear hI2
                first | with_reducible refine (hc2 _).mono ?_ | with_reducible refine (hc3 (by omega) _).mono ?_
                rintro e w6 ⟨rfl, hk⟩
                have K6 := Lib.hid (below_then K5.out K5.out.size hk)
                clear hk hc2 hc3
                cases Q2
                all_goals
                  go_wp2
                  go_roundg (ls.length + 1 - (cl + 1))
                  case measure => omega
                  case rel => exact ⟨cl + 1, by go_num, by omega, by omega, K6⟩
          | false =>
            cases Q1 with
            | true => exact absurd (HI1.out rfl) (by simp)
            | false =>
              go_wp2_with fail
              all_goals
                obtain ⟨Q2, hI2, hc2, hc3⟩ := HD.out cl hlt _ K5.out
                cases Q2 with
                | true => exact absurd (hI2 rfl) (by simp)
                | false =>
                  clear hI2
                  first | with_reducible refine (hc2 _).mono ?_ | with_reducible refine (hc3 (by omega) _).mono ?_
                  rintro e w6 ⟨rfl, hk⟩
                  have K6 := Lib.hid (below_then K5.out K5.out.size hk)
                  clear hk hc2 hc3
                  go_wp2
                  go_roundg (ls.length + 1 - (cl + 1))
                  case measure => omega
                  case rel => exact ⟨cl + 1, by go_num, by omega, by omega, K6⟩
      · have hic : (i : Int) < (cl : Int) := by omega
        have hic2 : i < cl := by omega
        go_wp2_with fail
        all_goals
          obtain ⟨Q1, hI1, hc1⟩ := HT.out i hlt _ _ K4.out
          have HI1 := Lib.hid hI1
          clear hI1
          refine hc1.mono ?_
          rintro e w5 ⟨rfl, hk⟩
          have K5 := Lib.hid (below_then K4.out K4.out.size hk)
          clear hk hc1
          cases G with
          | true =>
            cases Q1
            all_goals
              go_wp2_with fail
              all_goals
                obtain ⟨Q2, hI2, hc2, hc3⟩ := HD.out i hlt _ K5.out
                clear hI2
                first | with_reducible refine (hc2 _).mono ?_ | with_reducible refine (hc3 (by omega) _).mono ?_
                rintro e w6 ⟨rfl, hk⟩
                have K6 := Lib.hid (below_then K5.out K5.out.size hk)
                clear hk hc2 hc3
                cases Q2
                all_goals
                  go_wp2
                  go_roundg (ls.length + 1 - (i + 1))
                  case measure => omega
                  case rel => exact ⟨i + 1, by go_num, by omega, by omega, K6⟩
          | false =>
            cases Q1 with
            | true => exact absurd (HI1.out rfl) (by simp)
            | false =>
              go_wp2_with fail
              all_goals
                obtain ⟨Q2, hI2, hc2, hc3⟩ := HD.out i hlt _ K5.out
                cases Q2 with
                | true => exact absurd (hI2 rfl) (by simp)
                | false =>
                  clear hI2
                  first | with_reducible refine (hc2 _).mono ?_ | with_reducible refine (hc3 (by omega) _).mono ?_
                  rintro e w6 ⟨rfl, hk⟩
                  have K6 := Lib.hid (below_then K5.out K5.out.size hk)
                  clear hk hc2 hc3
                  go_wp2
                  go_roundg (ls.length + 1 - (i + 1))
                  case measure => omega
                  case rel => exact ⟨i + 1, by go_num, by omega, by omega, K6⟩
    · have hiI : ¬ (i : Int) ≤ (ls.length : Int) := by omega
      have hie : i = ls.length + 1 := by omega
      subst hie
      clear hi hgg hlt
      obtain ⟨wo, hwo⟩ : ∃ X, X = wr := ⟨_, rfl⟩
      subst hwo
      go_wp2
      go_loopg [9] (rs.length + 1) (fun gg s9 wr => ∃ i : Nat, s9 = .int .i64 (i : Int) ∧ i ≤ rs.length + 1 ∧ rs.length + 1 - i ≤ gg ∧ Hid (Below w.heap.size w wr))
      case atStart => exact ⟨0, by go_num, by omega, by omega, K4⟩
      case round =>
        obtain ⟨i, rfl, hi, hgg, K5⟩ := hrel
        by_cases hlt : i ≤ rs.length
        · have hiJ : (i : Int) ≤ (rs.length : Int) := by omega
          have hi0 : (0 : Int) ≤ (i : Int) := by omega
          by_cases he : cr = i
          · obtain rfl : cr = i := he
            go_wp2_with fail
            all_goals
              obtain ⟨Q1, hI1, hc1⟩ := HU.out cr hlt _ _ K5.out
              have HI1 := Lib.hid hI1
              clear hI1
              refine hc1.mono ?_
              rintro e w6 ⟨rfl, hk⟩
              have K6 := Lib.hid (below_then K5.out K5.out.size hk)
              clear hk hc1
              cases G with
              | true =>
                cases Q1
                all_goals
                  go_wp2
                  go_roundg (rs.length + 1 - (cr + 1))
                  case measure => omega
                  case rel => exact ⟨cr + 1, by go_num, by omega, by omega, K6⟩
              | false =>
                cases Q1 with
                | true => exact absurd (HI1.out rfl) (by simp)
                | false =>
                  go_wp2
                  go_roundg (rs.length + 1 - (cr + 1))
                  case measure => omega
                  case rel => exact ⟨cr + 1, by go_num, by omega, by omega, K6⟩
          · have hic : (i : Int) < (cr : Int) := by omega
            have hic2 : i < cr := by omega
            go_wp2_with fail
            all_goals
              obtain ⟨Q1, hI1, hc1⟩ := HU.out i hlt _ _ K5.out
              have HI1 := Lib.hid hI1
              clear hI1
              refine hc1.mono ?_
              rintro e w6 ⟨rfl, hk⟩
              have K6 := Lib.hid (below_then K5.out K5.out.size hk)
              clear hk hc1
              cases G with
              | true =>
                cases Q1
                all_goals
                  go_wp2
                  go_roundg (rs.length + 1 - (i + 1))
                  case measure => omega
                  case rel => exact ⟨i + 1, by go_num, by omega, by omega, K6⟩
              | false =>
                cases Q1 with
                | true => exact absurd (HI1.out rfl) (by simp)
                | false =>
                  go_wp2
                  go_roundg (rs.length + 1 - (i + 1))
                  case measure => omega
                  case rel => exact ⟨i + 1, by go_num, by omega, by omega, K6⟩
        · have hiJ : ¬ (i : Int) ≤ (rs.length : Int) := by omega
          go_wp2_with fail
          refine (HN1.out _ K5.out).mono ?_
          rintro e w6 ⟨rfl, hk⟩
          have K6 := Lib.hid (below_then K5.out K5.out.size hk)
          clear hk
          go_wp2_with fail
          refine (HN2.out _ K6.out).mono ?_
          rintro e w7 ⟨rfl, hk⟩
          have K7 := Lib.hid (below_then K6.out K6.out.size hk)
          clear hk
          go_wp2_with fail
          refine (awake6 _).mono ?_
          rintro e w8 ⟨rfl, hk⟩
          have K8 := Lib.hid (below_then K7.out K7.out.size hk)
          clear hk
          go_wp2
          go_ret
          exact ⟨rfl, K8.out⟩
set_option maxRecDepth 100000 in
theorem more_dark1 (Ar : Option Addr) (cr : Nat) (rs : List Rl) (Al : Option Addr) (cl : Nat) (ls : List PR) (t : Value) (w : World)
    (Rr : Reads w (fun b => b < w.heap.size) 3 Ar rs.length (rs.flatMap Rl.cells)) (Rs : Reads w (fun b => b < w.heap.size) 1 Al ls.length (ls.flatMap fun p : PR => [p.val])) (hl : ∀ p ∈ ls, p.In w) (X : light6B rs ls = false) :
    Calls Try.prog 15 #[.slice Ar rs.length cr, .slice Al ls.length cl, t] w fun e w' => e = .returned (.bool true) ∧ Below w.heap.size w w' := by
  have HL1 := Lib.hid (light6_any Ar cr rs Al cl ls w Rr Rs hl)
  rw [X] at HL1
  clear X Rr Rs hl
  go_enter Try.func15, Try.ntmps15
  go_wp2_with fail
  refine HL1.out.mono ?_
  rintro e w1 ⟨rfl, hk⟩
  have K1 := Lib.hid hk
  clear hk
  go_wp2_with fail
  refine (awake6 _).mono ?_
  rintro e w8 ⟨rfl, hk⟩
  have K8 := Lib.hid (below_then K1.out K1.out.size hk)
  clear hk
  go_wp2
  go_ret
  exact ⟨rfl, K8.out⟩
set_option maxRecDepth 100000 in
theorem more_dark2 (Ar : Option Addr) (cr : Nat) (rs : List Rl) (Al : Option Addr) (cl : Nat) (ls : List PR) (t : PR) (w : World)
    (Rr : Reads w (fun b => b < w.heap.size) 3 Ar rs.length (rs.flatMap Rl.cells)) (Rs : Reads w (fun b => b < w.heap.size) 1 Al ls.length (ls.flatMap fun p : PR => [p.val])) (hl : ∀ p ∈ ls, p.In w) (ht : t.In w) (X : light6B rs ls = true) (Y : light6B [] [t] = false) :
    Calls Try.prog 15 #[.slice Ar rs.length cr, .slice Al ls.length cl, t.val] w fun e w' => e = .returned (.bool true) ∧ Below w.heap.size w w' := by
  have HL1 := Lib.hid (light6_any Ar cr rs Al cl ls w Rr Rs hl)
  rw [X] at HL1
  have HL2 : Hid (∀ (w' : World) (g : Nat), Below w.heap.size w w' → Blk w' g 38 #[t.val] → Calls Try.prog 33 #[.slice none 0 0, .slice (some ⟨g, 0, none⟩) 1 1] w' fun e w2 => e = .returned (.bool false) ∧ Below w'.heap.size w' w2) :=
    Lib.hid (fun w' g hb h1 => by
      have := light6_any none 0 [] _ 1 [t] w' (Reads.nil _ _ _ _) (reads_one1 h1) (fun p hp => by rw [List.mem_singleton] at hp; subst hp; exact ht.below hb)
      rw [Y] at this
      exact this)
  clear X Y Rr Rs hl ht
  unfold PR.val at HL2
  unfold PR.val
  go_enter Try.func15, Try.ntmps15
  go_wp2_with fail
  refine HL1.out.mono ?_
  rintro e w1 ⟨rfl, hk⟩
  have K1 := Lib.hid hk
  clear hk
  have K1' := Lib.hid (K1.out.alloc K1.out.size (.cells #[.slice t.A t.l.length t.c] 38))
  go_wp2_with fail
  refine (HL2.out _ _ K1'.out (Blk.new w1 38 _)).mono ?_
  rintro e w2 ⟨rfl, hk⟩
  have K2 := Lib.hid (below_then K1'.out K1'.out.size hk)
  clear hk
  go_wp2_with fail
  refine (awake6 _).mono ?_
  rintro e w8 ⟨rfl, hk⟩
  have K8 := Lib.hid (below_then K2.out K2.out.size hk)
  clear hk
  go_wp2
  go_ret
  exact ⟨rfl, K8.out⟩
theorem more_law (Ar : Option Addr) (cr : Nat) (rs : List Rl) (Al : Option Addr) (cl : Nat) (ls : List PR) (t : PR) (w : World) (hcr : rs.length ≤ cr) (hcl : ls.length ≤ cl) (hcr' : cr ≤ 9223372036854775807) (hcl' : cl ≤ 9223372036854775807)
    (Rr : Reads w (fun b => b < w.heap.size) 3 Ar rs.length (rs.flatMap Rl.cells)) (Rs : Reads w (fun b => b < w.heap.size) 1 Al ls.length (ls.flatMap fun p : PR => [p.val])) (hr : ∀ r ∈ rs, r.In w) (hl : ∀ p ∈ ls, p.In w) (ht : t.In w) :
    Calls Try.prog 15 #[.slice Ar rs.length cr, .slice Al ls.length cl, t.val] w fun e w' => e = .returned (.bool true) ∧ Below w.heap.size w w' := by
  cases X : light6B rs ls with
  | false => exact more_dark1 Ar cr rs Al cl ls _ w Rr Rs hl X
  | true =>
    cases Y : light6B [] [t] with
    | false => exact more_dark2 Ar cr rs Al cl ls t w Rr Rs hl ht X Y
    | true => exact more_main Ar cr rs Al cl ls t w hcr hcl hcr' hcl' Rr Rs hr hl ht X Y
set_option maxRecDepth 100000 in
theorem inhibitMore_lifted (os : Os) (started : os.Started) (H : Type) (enc : TypeId × Value → H) :
    ReturnsInHanded {} Try.checked os 15 .any (Rows.inhibitMoreSpec.pre6 enc Try.prog Try.f15 Rows.inhibitMoreRow.domain false) (Rows.inhibitMoreSpec.post enc Try.prog Try.f15 false true false false) := by
  refine returnsInHanded_of_change (C := Try.checked) tOwn started (by kernel_rfl) Try.func15
    (ChangeSpec.witness6 (enc := enc) (C := Try.checked) false ⟨#[], #[.slice none 0 0, .slice none 0 0, .slice none 0 0], []⟩ 8 (by kernel_rfl) (by kernel_rfl) (by kernel_rfl) (by kernel_rfl)) ?_
  intro W base args ds gs before hval0 hW hcnd _
  have hval : ∀ (j : Nat) t v, Try.f15.params[j]? = some t → args[j]? = some v → Value.okWide Try.prog W .any base t v := hval0
  have hW' := hW
  obtain ⟨p, q, hA0, hV, rfl, hfz, hnd⟩ := hW
  have hA : DataW.TrodAll enc Try.prog W 0 (fun _ => true) true Try.f15.params.toList args.toList ds p := hA0
  rw [Try.params15] at hA hval
  obtain ⟨v0, vs0, d0, ds0, p0, q0, hargs, rfl, rfl, h0, r0⟩ := trodAll_cons hA
  obtain ⟨v1, vs1, d1, ds1, p1, q1, rfl, rfl, rfl, h1, r1⟩ := trodAll_cons r0
  obtain ⟨v2, vs2, d2, ds2, p2, q2, rfl, rfl, rfl, h2, r2⟩ := trodAll_cons r1
  obtain ⟨rfl, rfl, rfl⟩ := trodAll_nil r2
  obtain rfl : args = #[v0, v1, v2] := by cases args; simp_all
  obtain ⟨Aa, ca, a, rfl, ra, ia, la, ma, za⟩ := open_rules (hval 0 49 v0 rfl rfl) h0
  obtain ⟨Ab, cb, b, rfl, rb, ib, lb, mb, zb⟩ := open_pairss (hval 1 50 v1 rfl rfl) h1
  obtain ⟨t, rfl, it⟩ := open_pr (hval 2 38 v2 rfl rfl) h2
  refine (more_law Aa ca a Ab cb b t W la lb ma mb ra rb ia ib it).mono fun e W' ⟨he, hb⟩ => ?_
  subst he
  exact ⟨_, rfl, law_post tLaid (by decide +kernel) hW' rfl (by kernel_rfl) Try.underlying4 rfl hb⟩

/-- The closed facts of the row. -/
theorem inhibitMore_facts : joinedFacts Try.pinned.checked.prog 15 Try.f15 Rows.inhibitMoreSpec Rows.inhibitMoreRow = true := joined_at 15 Try.f15 Rows.inhibitMoreSpec Rows.inhibitMoreRow (by
  intro P hP h1 h2 h3
  unfold joinedFacts
  rw [h1, h2, h3]
  subst hP
  kernel_rfl)
/-- The statement. -/
theorem inhibitMore_holds : Rows.InhibitMoreSaid :=
  OpenClaim.holds_of_wide 15 Try.f15 rfl rfl rfl rfl rfl rfl rfl ⟨rfl, rfl, rfl, rfl, rfl⟩ rfl rfl rfl rfl rfl (by kernel_rfl) Try.func15 inhibitMore_facts
    (of_decide_eq_true (by kernel_rfl)) (by unfold Func.isWrapper; rw [if_neg (of_decide_eq_false (by kernel_rfl))]; exact ⟨rfl, rfl⟩)
    (fun os started H enc _ => inhibitMore_lifted os started H enc)
#print axioms inhibitMore_holds
end Go.Proofs.Ytnidjfmbbfoheaa
