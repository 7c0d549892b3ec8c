/- The statement InhibitEqual. Conditions: none. -/
import Derived.Test.YtnidjfmbbfoheaaInSelf
namespace Go.Proofs.Ytnidjfmbbfoheaa
set_option linter.unusedVariables false
set_option linter.unusedSimpArgs false
open Go.ChangeShapes Go.WideShapes Go.ChangeAt Go.RowKit Go.Joins Go.Deep Go.BigFrame

set_option maxRecDepth 100000 in
theorem open_tx {H : Type} {enc : TypeId × Value → H} {w : World} {base : Nat} {spare : Nat → Bool} {held : Bool} {r : Reach} {b0 : Nat} {v : Value} {d : DataW H} {p : List MemPlace} (hv : Value.okWide Try.prog w r b0 9 v) (h : DataW.Trod enc Try.prog w base spare held 9 v d p) :
    ∃ s, v = .string (bs s) ∧ TxOk s := by
  obtain ⟨s, rfl⟩ := okWide_string Try.underlying9 hv
  obtain ⟨fuel, hf⟩ := h
  obtain ⟨n, e, a, b⟩ := str_field fuel (show DataW.trod enc Try.prog w base spare held fuel 9 [.string s] = some _ from hf)
  exact ⟨n, e, a, b⟩
theorem info9 : (Try.prog.info? 9).map (fun i => (i.zero, i.size, i.bytes)) = some (some (.string ⟨#[]⟩), 1, 16) := by kernel_rfl
def more6 (r : Rl) (A : Option Addr) (c : Nat) (n : List Nat) : Rl := ⟨r.s, r.t, ⟨A, c, r.e.l ++ [n]⟩⟩
def less6 (r : Rl) : Rl := ⟨r.s, r.t, ⟨none, 0, []⟩⟩
theorem byB_more (r : Rl) (A : Option Addr) (c : Nat) (n : List Nat) (a b : List Pr) : byB (more6 r A c n) a b = (byB r a b && decide (getB a n = getB b n)) := by
  unfold byB more6
  simp only [List.any_append, List.any_cons, List.any_nil, Bool.or_false]
  have : differs a b n = !decide (getB a n = getB b n) := by unfold differs; simp
  rw [this]
  cases allB r.s.l a <;> cases allB r.t.l b <;> cases allB r.t.l a <;> cases allB r.s.l b <;> cases r.e.l.any (differs a b) <;> cases decide (getB a n = getB b n) <;> rfl
theorem byB_less (r : Rl) (a b : List Pr) (h : byB r a b = true) : byB (less6 r) a b = true := by
  unfold byB less6 at *
  simp only [List.any_nil, Bool.not_false, Bool.and_true] at *
  rw [Bool.and_eq_true] at h
  exact h.1
theorem light6_few {r : Rl} {a b : PR} (h : light6B [r] [a, b] = true) : r.e.l.length ≤ 40 := by
  unfold light6B at h
  simp only [List.all_cons, List.all_nil, Bool.and_true, Bool.and_eq_true] at h
  have := h.2
  unfold fewB at this
  simp only [Bool.and_eq_true, decide_eq_true_eq] at this
  exact this.2
theorem tx_one (l : List (List Nat)) : ∀ u ∈ l.flatMap tx, u.oneCell' = true := by
  intro u hu
  rw [List.mem_flatMap] at hu
  obtain ⟨s, _, hs⟩ := hu
  simp only [tx, List.mem_singleton] at hs
  subst hs; rfl
set_option maxRecDepth 100000 in
set_option maxHeartbeats 8000000 in
theorem equal_law (r : Rl) (a b : PR) (n : List Nat) (hn : TxOk n) (w : World) (Hr : r.In w) (Ha : a.In w) (Hb : b.In w) :
    Calls Try.prog 12 #[r.val, .agg #[a.val, b.val], .string (bs n)] w fun e w' => e = .returned (.bool true) ∧ Below w.heap.size w w' := by
  have HL : Hid (∀ (w' : World) (g1 g2 : Nat), Below w.heap.size w w' → Blk w' g1 47 #[r.s.val, r.t.val, r.e.val] → Blk w' g2 38 #[a.val, b.val] → Calls Try.prog 33 #[.slice (some ⟨g1, 0, none⟩) 1 1, .slice (some ⟨g2, 0, none⟩) 2 2] w' fun e w2 => e = .returned (.bool (light6B [r] [a, b])) ∧ Below w'.heap.size w' w2) :=
    Lib.hid (fun w' g1 g2 hb h1 h2 => light6_any _ 1 [r] _ 2 [a, b] w' (reads_rl h1) (reads_two h2) (fun p hp => by
      simp only [List.mem_cons, List.not_mem_nil, or_false] at hp
      rcases hp with rfl | rfl
      · exact Ha.below hb
      · exact Hb.below hb))
  obtain ⟨X, hX⟩ : ∃ X, light6B [r] [a, b] = X := ⟨_, rfl⟩
  rw [hX] at HL
  have HBy : Hid (X = true → ∀ w', Below w.heap.size w w' → Calls Try.prog 35 #[.agg #[r.s.val, r.t.val, r.e.val], a.val, b.val] w' fun e w2 => e = .returned (.bool (byB r a.l b.l)) ∧ Below w'.heap.size w' w2) :=
    Lib.hid (fun hx w' hb => by
      obtain ⟨hs, la, lb⟩ := light6_two (hX.trans hx)
      exact by_any r a b w' (Hr.below hb) hs (Ha.below hb) (Hb.below hb) la lb)
  have HMo : Hid (X = true → ∀ w' A c, Below w.heap.size w w' → Reads w' (fun b => b < w'.heap.size) 1 A (r.e.l.length + 1) (r.e.l.flatMap tx ++ [.string (bs n)]) → Calls Try.prog 35 #[.agg #[r.s.val, r.t.val, .slice A (r.e.l.length + 1) c], a.val, b.val] w' fun e w2 => e = .returned (.bool (byB r a.l b.l && decide (getB a.l n = getB b.l n))) ∧ Below w'.heap.size w' w2) :=
    Lib.hid (fun hx w' A c hb hR => by
      obtain ⟨hs, la, lb⟩ := light6_two (hX.trans hx)
      have hlen : (r.e.l ++ [n]).length = r.e.l.length + 1 := by simp
      have hfl : (r.e.l ++ [n]).flatMap tx = r.e.l.flatMap tx ++ [.string (bs n)] := by rw [List.flatMap_append]; rfl
      have := by_any (more6 r A c n) a b w' ⟨Hr.1.below hb, Hr.2.1.below hb, ⟨by unfold more6; simp only; rw [hlen, hfl]; exact hR, fun x hx => by
        rcases List.mem_append.1 hx with hx | hx
        · exact Hr.2.2.2 x hx
        · rw [List.mem_singleton] at hx; subst hx; exact hn⟩⟩ ⟨hs.1, hs.2.1, by have := light6_few (hX.trans hx); unfold more6; simp only; rw [hlen]; omega⟩ (Ha.below hb) (Hb.below hb) la lb
      rw [byB_more] at this
      unfold Rl.val more6 TR.val at this
      simp only [hlen] at this
      exact this)
  have HLe : Hid (X = true → byB r a.l b.l = true → ∀ w', Below w.heap.size w w' → Calls Try.prog 35 #[.agg #[r.s.val, r.t.val, .slice none 0 0], a.val, b.val] w' fun e w2 => e = .returned (.bool true) ∧ Below w'.heap.size w' w2) :=
    Lib.hid (fun hx hy w' hb => by
      obtain ⟨hs, la, lb⟩ := light6_two (hX.trans hx)
      have := by_any (less6 r) a b w' ⟨Hr.1.below hb, Hr.2.1.below hb, ⟨Reads.nil _ _ _ _, fun x hx => by cases hx⟩⟩ ⟨hs.1, hs.2.1, by simp [less6]⟩ (Ha.below hb) (Hb.below hb) la lb
      rw [byB_less r a.l b.l hy] at this
      exact this)
  have HGa : Hid (X = true → ∀ w', Below w.heap.size w w' → Calls Try.prog 36 #[a.val, .string (bs n)] w' fun e w2 => e = .returned (.string (bs (getB a.l n))) ∧ Below w'.heap.size w' w2) :=
    Lib.hid (fun hx w' hb => get_pr a n w' hn (Ha.below hb) (light6_two (hX.trans hx)).2.1)
  have HGb : Hid (X = true → ∀ w', Below w.heap.size w w' → Calls Try.prog 36 #[b.val, .string (bs n)] w' fun e w2 => e = .returned (.string (bs (getB b.l n))) ∧ Below w'.heap.size w' w2) :=
    Lib.hid (fun hx w' hb => get_pr b n w' hn (Hb.below hb) (light6_two (hX.trans hx)).2.2)
  have HCmp : Hid (((bs (getB a.l n)).toList == (bs (getB b.l n)).toList) = decide (getB a.l n = getB b.l n)) := Lib.hid (bs_beq (getB_lt a.l n Ha.2) (getB_lt b.l n Hb.2))
  have HRe := Lib.hid Hr.2.2.1
  have HLen : Hid (X = true → r.e.l.length ≤ 40) := Lib.hid (fun hx => light6_few (hX.trans hx))
  have HOne := Lib.hid (tx_one r.e.l)
  clear hX Hr Ha Hb hn
  generalize byB r a.l b.l = D at *
  generalize decide (getB a.l n = getB b.l n) = E at *
  generalize bs (getB a.l n) = ga at *
  generalize bs (getB b.l n) = gb at *
  generalize r.e.l.flatMap tx = xs at *
  generalize bs n = bn at *
  unfold Rl.val
  unfold MR.val TR.val PR.val at *
  generalize r.s.l.length = sl at *
  generalize r.s.A = sA at *
  generalize r.s.c = sc at *
  generalize r.t.l.length = tl at *
  generalize r.t.A = tA at *
  generalize r.t.c = tc at *
  generalize r.e.l.length = el at *
  generalize r.e.A = eA at *
  generalize r.e.c = ec at *
  generalize a.l.length = al at *
  generalize a.A = aA at *
  generalize a.c = ac at *
  generalize b.l.length = bl at *
  generalize b.A = bA at *
  generalize b.c = bc at *
  go_enter Try.func12, Try.ntmps12
  go_wp2
  go_quiet (fail)
  go_wp2_with fail
  have s1 : (w.alloc (.cells #[.slice sA sl sc, .slice tA tl tc, .slice eA el ec] 47)).heap.size = w.heap.size + 1 := by simp
  have s2 : (((w.alloc (.cells #[.slice sA sl sc, .slice tA tl tc, .slice eA el ec] 47)).alloc (.cells #[.slice aA al ac, .slice bA bl bc] 52)).drewN nq).heap.size = w.heap.size + 1 + 1 := by simp
  have s3 : ((((w.alloc (.cells #[.slice sA sl sc, .slice tA tl tc, .slice eA el ec] 47)).alloc (.cells #[.slice aA al ac, .slice bA bl bc] 52)).drewN nq).alloc (.cells #[.slice sA sl sc, .slice tA tl tc, .slice eA el ec] 47)).heap.size = w.heap.size + 1 + 1 + 1 := by simp
  have K1 := Lib.hid (((below_drewN (((Below.refl w.heap.size w).alloc (Nat.le_refl _) (.cells #[.slice sA sl sc, .slice tA tl tc, .slice eA el ec] 47)).alloc (by rw [s1]; omega) (.cells #[.slice aA al ac, .slice bA bl bc] 52)) nq).alloc (by rw [s2]; omega) (.cells #[.slice sA sl sc, .slice tA tl tc, .slice eA el ec] 47)).alloc (by rw [s3]; omega) (.cells #[.slice aA al ac, .slice bA bl bc] 38))
  have B0 : Hid (Blk (((((w.alloc (.cells #[.slice sA sl sc, .slice tA tl tc, .slice eA el ec] 47)).alloc (.cells #[.slice aA al ac, .slice bA bl bc] 52)).drewN nq).alloc (.cells #[.slice sA sl sc, .slice tA tl tc, .slice eA el ec] 47)).alloc (.cells #[.slice aA al ac, .slice bA bl bc] 38)) w.heap.size 47 #[.slice sA sl sc, .slice tA tl tc, .slice eA el ec]) := Lib.hid (((((Blk.new w 47 #[.slice sA sl sc, .slice tA tl tc, .slice eA el ec]).alloc (.cells #[.slice aA al ac, .slice bA bl bc] 52)).drewN nq).alloc (.cells #[.slice sA sl sc, .slice tA tl tc, .slice eA el ec] 47)).alloc (.cells #[.slice aA al ac, .slice bA bl bc] 38))
  have C1 : Blk (((((w.alloc (.cells #[.slice sA sl sc, .slice tA tl tc, .slice eA el ec] 47)).alloc (.cells #[.slice aA al ac, .slice bA bl bc] 52)).drewN nq).alloc (.cells #[.slice sA sl sc, .slice tA tl tc, .slice eA el ec] 47)).alloc (.cells #[.slice aA al ac, .slice bA bl bc] 38)) (w.heap.size + 1 + 1) 47 #[.slice sA sl sc, .slice tA tl tc, .slice eA el ec] := (Blk.new_at (w := (((w.alloc (.cells #[.slice sA sl sc, .slice tA tl tc, .slice eA el ec] 47)).alloc (.cells #[.slice aA al ac, .slice bA bl bc] 52)).drewN nq)) (by rw [s2])).alloc (.cells #[.slice aA al ac, .slice bA bl bc] 38)
  have C2 : Blk (((((w.alloc (.cells #[.slice sA sl sc, .slice tA tl tc, .slice eA el ec] 47)).alloc (.cells #[.slice aA al ac, .slice bA bl bc] 52)).drewN nq).alloc (.cells #[.slice sA sl sc, .slice tA tl tc, .slice eA el ec] 47)).alloc (.cells #[.slice aA al ac, .slice bA bl bc] 38)) (w.heap.size + 1 + 1 + 1) 38 #[.slice aA al ac, .slice bA bl bc] := Blk.new_at (w := (((w.alloc (.cells #[.slice sA sl sc, .slice tA tl tc, .slice eA el ec] 47)).alloc (.cells #[.slice aA al ac, .slice bA bl bc] 52)).drewN nq).alloc (.cells #[.slice sA sl sc, .slice tA tl tc, .slice eA el ec] 47)) (by rw [s3])
  refine (HL.out _ _ _ K1.out C1 C2).mono ?_
  rintro e w1 ⟨rfl, hk⟩
  have K2 := Lib.hid (below_then K1.out K1.out.size hk)
  have B1 := Lib.hid (B0.out.below hk B0.out.lt)
  clear hk s1 s2 s3 C1 C2
  cases X with
  | false =>
    go_wp2_with fail
    refine (awake6 _).mono ?_
    rintro e w2 ⟨rfl, hk⟩
    have K3 := Lib.hid (below_then K2.out K2.out.size hk)
    clear hk
    go_wp2
    go_ret
    exact ⟨rfl, K3.out⟩
  | true =>
    have hel : el ≤ 40 := HLen.out (by simp)
    have hy0 := B1.out.cell 0
    have hy1 := B1.out.cell 1
    have hy2 := B1.out.cell 2
    simp only [List.getElem?_toArray, List.getElem?_cons_zero, List.getElem?_cons_succ] at hy0 hy1 hy2
    go_wp2_with fail
    refine (HBy.out (by simp) _ K2.out).mono ?_
    rintro e w2 ⟨rfl, hk⟩
    have K3 := Lib.hid (below_then K2.out K2.out.size hk)
    have B2 := Lib.hid (B1.out.below hk B1.out.lt)
    clear hk hy0 hy1 hy2
    have hy0 := B2.out.cell 0
    have hy1 := B2.out.cell 1
    have hy2 := B2.out.cell 2
    simp only [List.getElem?_toArray, List.getElem?_cons_zero, List.getElem?_cons_succ] at hy0 hy1 hy2
    have s3 : (w2.alloc (.cells #[.slice sA sl sc, .slice tA tl tc, .slice eA el ec] 47)).heap.size = w2.heap.size + 1 := by simp
    have l2 := B2.out.lt
    have K4 := Lib.hid ((K3.out.alloc K3.out.size (.cells #[.slice sA sl sc, .slice tA tl tc, .slice eA el ec] 47)).alloc (by rw [s3]; have := K3.out.size; omega) (.cells #[] 9))
    have B4 := Lib.hid ((B2.out.alloc (.cells #[.slice sA sl sc, .slice tA tl tc, .slice eA el ec] 47)).alloc (.cells #[] 9))
    have M4 := Lib.hid ((Blk.new w2 47 #[.slice sA sl sc, .slice tA tl tc, .slice eA el ec]).alloc (.cells #[] 9))
    have O4 := Lib.hid (own_of_blk0 (base := w2.heap.size + 1) (size := 1) (Blk.new_at (w := w2.alloc (.cells #[.slice sA sl sc, .slice tA tl tc, .slice eA el ec] 47)) (t := 9) (cs := #[]) (g := w2.heap.size + 1) (by rw [s3])) (Nat.le_refl _))
    have s4 : ((w2.alloc (.cells #[.slice sA sl sc, .slice tA tl tc, .slice eA el ec] 47)).alloc (.cells #[] 9)).heap.size = w2.heap.size + 1 + 1 := by simp
    have S4 := Lib.hid s4
    clear s3 s4
    go_wp2_with (first
      | (at_builtin
         refine app_reads (w2.heap.size + 1) rfl (.tmp 30) (.tmp 32) 45 9 _ 1 16 rfl und45b info9 rfl (by decide) _ 0 [] rfl (fun b => b < w.heap.size) eA el ec xs rfl (HRe.out.below (by omega) K4.out) HOne.out O4.out (by rw [S4.out]; omega) (by omega) (by omega) ?_
         intro v1 w3 hO hG hat
         have O5 : Hid (w3.ownsRow (w2.heap.size + 1) 9 1 v1 el xs) := Lib.hid (by simpa using hO)
         have K5 := Lib.hid (K4.out.trans (below_of_grown (B := w.heap.size) K4.out.size hG (fun k hk => by have := own_base O4.out k hk; have := K3.out.size; omega)))
         have B5 := Lib.hid (B4.out.grown hG (fun e => by have := own_base O4.out _ e.symm; omega))
         have M5 := Lib.hid (M4.out.grown hG (fun e => by have := own_base O4.out _ e.symm; omega))
         have hl5 := hG.size
         rw [S4.out] at hl5
         clear hO hG hat)
      | (at_builtin
         refine app_row (w2.heap.size + 1) rfl (.tmp 33) (.tmp 35) 45 9 _ 1 16 rfl und45b info9 rfl (by omega) _ _ _ #[.string bn] rfl _ rfl rfl (by simp [Value.oneCell']) rfl O5.out (by omega) (by omega) (by omega) ?_
         intro v2 w4 hO hG hat
         have K6 := Lib.hid (K5.out.trans (below_of_grown (B := w.heap.size) K5.out.size hG (fun k hk => by have := own_base O5.out k hk; have := K3.out.size; omega)))
         have B6 := Lib.hid (B5.out.grown hG (fun e => by have := own_base O5.out _ e.symm; omega))
         have M6 := Lib.hid (M5.out.grown hG (fun e => by have := own_base O5.out _ e.symm; omega))
         obtain ⟨A6, c6, rfl, R6⟩ := Reads.of_own hO
         have HR6 : Hid (Reads w4 (fun b => b < w4.heap.size ∧ b ≠ w2.heap.size) 1 A6 (el + 1) (xs ++ [.string bn])) := Lib.hid (R6.imp (fun b hb => ⟨own_lt hO b hb, by have := own_base hO b hb; omega⟩))
         have hl6 := hG.size
         have z0 := M6.out.cell 2
         have zf := M6.out.frozen 2
         have hm6 := M6.out.lt
         simp only [List.getElem?_toArray, List.getElem?_cons_zero, List.getElem?_cons_succ] at z0
         clear hO hG hat R6 hy0 hy1 hy2
         have hy0 := B6.out.cell 0
         have hy1 := B6.out.cell 1
         have hy2 := B6.out.cell 2
         simp only [List.getElem?_toArray, List.getElem?_cons_zero, List.getElem?_cons_succ] at hy0 hy1 hy2)
      | fail)
    have W7s : (w4.setCell ⟨w2.heap.size, 2, none⟩ (.slice A6 (el + 1) c6)).heap.size = w4.heap.size := by simp [World.setCell]
    have K7 := Lib.hid ((K6.out.setCell (p := ⟨w2.heap.size, 2, none⟩) (by have := K3.out.size; exact this) (.slice A6 (el + 1) c6)).alloc (by rw [W7s]; exact K6.out.size) (.cells #[.slice sA sl sc, .slice tA tl tc, .slice none 0 0] 47))
    have M7 := Lib.hid ((M6.out.set_ 2 (.slice A6 (el + 1) c6)).alloc (.cells #[.slice sA sl sc, .slice tA tl tc, .slice none 0 0] 47))
    have N7 := Lib.hid (Blk.new_at (w := w4.setCell ⟨w2.heap.size, 2, none⟩ (.slice A6 (el + 1) c6)) (t := 47) (cs := #[.slice sA sl sc, .slice tA tl tc, .slice none 0 0]) (g := w4.heap.size) W7s.symm)
    have R7 : Hid (Reads ((w4.setCell ⟨w2.heap.size, 2, none⟩ (.slice A6 (el + 1) c6)).alloc (.cells #[.slice sA sl sc, .slice tA tl tc, .slice none 0 0] 47)) (fun b => b < w4.heap.size) 1 A6 (el + 1) (xs ++ [.string bn])) :=
      Lib.hid ((HR6.out.keep (fun b hb => (Below.heap_alloc _ _ b (by rw [W7s]; exact hb.1)).trans (Below.heap_setCell w4 ⟨w2.heap.size, 2, none⟩ _ b hb.2))).imp (fun b hb => hb.1))
    have L7 : Hid (w4.heap.size ≤ ((w4.setCell ⟨w2.heap.size, 2, none⟩ (.slice A6 (el + 1) c6)).alloc (.cells #[.slice sA sl sc, .slice tA tl tc, .slice none 0 0] 47)).heap.size) := Lib.hid (by simp)
    clear W7s z0 zf hy0 hy1 hy2 B6 M6 B5 M5 B4 M4 O4 O5
    generalize (w4.setCell ⟨w2.heap.size, 2, none⟩ (.slice A6 (el + 1) c6)).alloc (.cells #[.slice sA sl sc, .slice tA tl tc, .slice none 0 0] 47) = w7 at *
    refine (HGa.out (by simp) _ K7.out).mono ?_
    rintro e w8 ⟨rfl, hk⟩
    have K8 := Lib.hid (below_then K7.out K7.out.size hk)
    have M8 := Lib.hid (M7.out.below hk M7.out.lt)
    have N8 := Lib.hid (N7.out.below hk N7.out.lt)
    have R8 := Lib.hid ((R7.out.imp (fun b hb => Nat.lt_of_lt_of_le hb L7.out)).keep (fun b hb => hk.block b hb))
    have L8 := Lib.hid hk.size
    clear hk
    go_wp2_with fail
    refine (HGb.out (by simp) _ K8.out).mono ?_
    rintro e w9 ⟨rfl, hk⟩
    have K9 := Lib.hid (below_then K8.out K8.out.size hk)
    have M9 := Lib.hid (M8.out.below hk M8.out.lt)
    have N9 := Lib.hid (N8.out.below hk N8.out.lt)
    have R9 := Lib.hid (((R8.out.imp (fun b hb => Nat.lt_of_lt_of_le hb L8.out)).keep (fun b hb => hk.block b hb)).imp (fun b hb => Nat.lt_of_lt_of_le hb hk.size))
    clear hk
    have hcmp := HCmp.out
    have m0 := M9.out.cell 0
    have m1 := M9.out.cell 1
    have m2 := M9.out.cell 2
    simp only [List.setIfInBounds_toArray, List.set_cons_succ, List.set_cons_zero, List.getElem?_toArray, List.getElem?_cons_zero, List.getElem?_cons_succ] at m0 m1 m2
    go_wp2_with fail
    refine (HMo.out (by simp) _ _ _ K9.out R9.out).mono ?_
    rintro e w10 ⟨rfl, hk⟩
    have K10 := Lib.hid (below_then K9.out K9.out.size hk)
    have N10 := Lib.hid (N9.out.below hk N9.out.lt)
    clear hk m0 m1 m2
    have m0 := N10.out.cell 0
    have m1 := N10.out.cell 1
    have m2 := N10.out.cell 2
    simp only [List.getElem?_toArray, List.getElem?_cons_zero, List.getElem?_cons_succ] at m0 m1 m2
    cases D with
    | false =>
      cases E
      all_goals
        go_wp2_with fail
        refine (awake6 _).mono ?_
        rintro e w11 ⟨rfl, hk⟩
        have K11 := Lib.hid (below_then K10.out K10.out.size hk)
        clear hk
        go_wp2
        go_ret
        exact ⟨rfl, K11.out⟩
    | true =>
      cases E
      all_goals
        go_wp2_with fail
        refine (HLe.out (by simp) (by simp) _ K10.out).mono ?_
        rintro e w11 ⟨rfl, hk⟩
        have K11 := Lib.hid (below_then K10.out K10.out.size hk)
        clear hk m0 m1 m2
        go_wp2_with fail
        refine (awake6 _).mono ?_
        rintro e w12 ⟨rfl, hk⟩
        have K12 := Lib.hid (below_then K11.out K11.out.size hk)
        clear hk
        go_wp2
        go_ret
        exact ⟨rfl, K12.out⟩
set_option maxRecDepth 100000 in
theorem inhibitEqual_lifted (os : Os) (started : os.Started) (H : Type) (enc : TypeId × Value → H) :
    ReturnsInHanded {} Try.checked os 12 .any (Rows.inhibitEqualSpec.pre6 enc Try.prog Try.f12 Rows.inhibitEqualRow.domain false) (Rows.inhibitEqualSpec.post enc Try.prog Try.f12 false true false false) := by
  refine returnsInHanded_of_change (C := Try.checked) tOwn started (by kernel_rfl) Try.func12
    (ChangeSpec.witness6 (enc := enc) (C := Try.checked) false ⟨#[], #[.agg #[.slice none 0 0, .slice none 0 0, .slice none 0 0], .agg #[.slice none 0 0, .slice none 0 0], .string ⟨#[]⟩], []⟩ 8 (by kernel_rfl) (by kernel_rfl) (by kernel_rfl) (by kernel_rfl)) ?_
  intro W base args ds gs before hval0 hW hcnd _
  have hval : ∀ (j : Nat) t v, Try.f12.params[j]? = some t → args[j]? = some v → Value.okWide Try.prog W .any base t v := hval0
  have hW' := hW
  obtain ⟨p, q, hA0, hV, rfl, hfz, hnd⟩ := hW
  have hA : DataW.TrodAll enc Try.prog W 0 (fun _ => true) true Try.f12.params.toList args.toList ds p := hA0
  rw [Try.params12] at hA hval
  obtain ⟨v0, vs0, d0, ds0, p0, q0, hargs, rfl, rfl, h0, r0⟩ := trodAll_cons hA
  obtain ⟨v1, vs1, d1, ds1, p1, q1, rfl, rfl, rfl, h1, r1⟩ := trodAll_cons r0
  obtain ⟨v2, vs2, d2, ds2, p2, q2, rfl, rfl, rfl, h2, r2⟩ := trodAll_cons r1
  obtain ⟨rfl, rfl, rfl⟩ := trodAll_nil r2
  obtain rfl : args = #[v0, v1, v2] := by cases args; simp_all
  obtain ⟨r, rfl, ir⟩ := open_rule (hval 0 47 v0 rfl rfl) h0
  obtain ⟨p1, p2, rfl, ip1, ip2⟩ := open_two (hval 1 52 v1 rfl rfl) h1
  obtain ⟨n, rfl, on⟩ := open_tx (hval 2 9 v2 rfl rfl) h2
  refine (equal_law r p1 p2 n on W ir ip1 ip2).mono fun e W' ⟨he, hb⟩ => ?_
  subst he
  exact ⟨_, rfl, law_post tLaid (by decide +kernel) hW' rfl (by kernel_rfl) Try.underlying4 rfl hb⟩

/-- The closed facts of the row. -/
theorem inhibitEqual_facts : joinedFacts Try.pinned.checked.prog 12 Try.f12 Rows.inhibitEqualSpec Rows.inhibitEqualRow = true := joined_at 12 Try.f12 Rows.inhibitEqualSpec Rows.inhibitEqualRow (by
  intro P hP h1 h2 h3
  unfold joinedFacts
  rw [h1, h2, h3]
  subst hP
  kernel_rfl)
/-- The statement. -/
theorem inhibitEqual_holds : Rows.InhibitEqualSaid :=
  OpenClaim.holds_of_wide 12 Try.f12 rfl rfl rfl rfl rfl rfl rfl ⟨rfl, rfl, rfl, rfl, rfl⟩ rfl rfl rfl rfl rfl (by kernel_rfl) Try.func12 inhibitEqual_facts
    (of_decide_eq_true (by kernel_rfl)) (by unfold Func.isWrapper; rw [if_neg (of_decide_eq_false (by kernel_rfl))]; exact ⟨rfl, rfl⟩)
    (fun os started H enc _ => inhibitEqual_lifted os started H enc)
#print axioms inhibitEqual_holds
end Go.Proofs.Ytnidjfmbbfoheaa
