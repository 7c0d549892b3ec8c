/- The statement RouteSomewhere: of a configuration that may be labels go somewhere, and nowhere twice; each route that is told takes them, and so do all in which it stands. Conditions: none. -/
import Derived.Test.YtnidjfmbbfoheaaT4
namespace Go.Proofs.Ytnidjfmbbfoheaa
set_option linter.unusedVariables false
set_option linter.unusedSimpArgs false
open Go.ChangeShapes Go.WideShapes Go.ChangeAt Go.RowKit Go.Joins Go.Deep Go.BigFrame

/-- A walk upwards: a place, or none. -/
def AtUp (l : List Ro) (lb : List Pr) (z : Int) : Prop := z = -1 ∨ ∃ k : Nat, z = (k : Int) ∧ Rt.Up (parF l) (takesF l lb) l.length k
theorem up_next {l : List Ro} {lb : List Pr} {k : Nat} {m : Ro} (hm : l[k]? = some m) (h : Rt.Up (parF l) (takesF l lb) l.length k) : AtUp l lb m.par := by
  have e : parF l k = m.par := by unfold parF; rw [hm]
  rcases h.over with h | ⟨i, h, hu⟩
  · exact .inl (e.symm.trans h)
  · exact .inr ⟨i, e.symm.trans h, hu⟩
theorem up_less {l : List Ro} {k : Nat} {m : Ro} (T : Rt.Tree (parF l) l.length) (hm : l[k]? = some m) : m.par < (k : Int) := by
  have e : parF l k = m.par := by unfold parF; rw [hm]
  have hk := (List.getElem?_eq_some_iff.1 hm).1
  by_cases h0 : k = 0
  · subst h0
    rw [T.first] at e
    omega
  · have := (T.ahead k (by omega) hk).2
    omega
set_option maxRecDepth 100000 in
set_option maxHeartbeats 8000000 in
theorem some_law (c : Cf) (P : PR) (w : World) (Hc : c.In w) (Hp : P.In w) : Calls Try.prog 19 #[c.val, P.val] w fun e w' => e = .returned (.bool true) ∧ Below w.heap.size w w' := by
  obtain ⟨w1, hw1⟩ : ∃ w1, w1 = w.alloc (.cells c.cells 70) := ⟨_, rfl⟩
  have hb1 : Below w.heap.size w w1 := by rw [hw1]; exact (Below.refl _ _).alloc (Nat.le_refl _) _
  have K1 := Lib.hid hb1
  have HC := Lib.hid (Hc.below hb1)
  have HP := Lib.hid (Hp.below hb1)
  have HLi : Hid (∀ X, Below w1.heap.size w1 X → Calls Try.prog 46 #[c.val] X fun e w' => e = .returned (.bool (lightC c)) ∧ Below X.heap.size X w') := Lib.hid (fun X hX => lightc_any c X (HC.out.below hX))
  have HLp : Hid (∀ X, Below w1.heap.size w1 X → Calls Try.prog 29 #[.slice none 0 0, .slice P.A P.l.length P.c] X fun e w' => e = .returned (.bool (lightB P.l)) ∧ Below X.heap.size X w') := Lib.hid (fun X hX => light_any P.A P.c P.l X (HP.out.below hX).1 (HP.out.below hX).2)
  have HCk : Hid (∀ X, Below w1.heap.size w1 X → Calls Try.prog 47 #[c.val] X fun e w' => e = .returned (.int .i64 (cfB c)) ∧ Below X.heap.size X w') := Lib.hid (fun X hX => check47_any c X (HC.out.below hX))
  have HWk := Lib.hid (fun (h1 : lightC c = true) (h2 : lightB P.l = true) (h3 : cfB c = 0) (X : World) (hX : Below w1.heap.size w1 X) => walk_pr c P X (HC.out.below hX) (HP.out.below hX) h1 h2 h3)
  have HTk := Lib.hid (fun (h1 : lightC c = true) (h2 : lightB P.l = true) (k : Nat) (m : Ro) (hm : c.l[k]? = some m) (X : World) (hX : Below w1.heap.size w1 X) => takes_pr c P X (HC.out.below hX) (HP.out.below hX) h1 h2 k m hm)
  have HTo := Lib.hid (fun (h : cfB c = 0) => told_of h P.l)
  have RT := Lib.hid HC.out.rt
  clear Hc Hp HC HP hb1
  obtain ⟨E1, hE1⟩ : ∃ y, lightC c = y := ⟨_, rfl⟩
  obtain ⟨E2, hE2⟩ : ∃ y, lightB P.l = y := ⟨_, rfl⟩
  obtain ⟨E3, hE3⟩ : ∃ y, cfB c = y := ⟨_, rfl⟩
  rw [hE1] at HLi HWk HTk
  rw [hE2] at HLp HWk HTk
  rw [hE3] at HCk HWk HTo
  clear hE1 hE2 hE3
  have BX : Hid (Blk w1 w.heap.size 70 c.cells) := Lib.hid (by rw [hw1]; exact Blk.new w 70 c.cells)
  have hlt : w.heap.size < w1.heap.size := by rw [hw1]; simp
  obtain ⟨A, cp, l, B, cq, rl, pt, rs⟩ := c
  unfold Cf.val at HLi HCk ⊢
  unfold PR.val
  simp only [Cf.cells] at hw1 HLi HCk HWk HTk HTo RT BX ⊢
  go_enter Try.func19, Try.ntmps19
  go_upto_region 1 with fail
  rw [← hw1]
  obtain ⟨bx, hbx⟩ : ∃ b, w.heap.size = b := ⟨_, rfl⟩
  rw [hbx] at BX hlt
  rw [hbx]
  clear hbx hw1
  have HB : Hid (∀ X, Below w1.heap.size w1 X → X.cell? ⟨bx, 0, none⟩ = some (.slice A l.length cp) ∧ X.cell? ⟨bx, 1, none⟩ = some (.slice B rl.length cq) ∧ X.cell? ⟨bx, 2, none⟩ = some (.int .i64 pt) ∧ X.cell? ⟨bx, 3, none⟩ = some (.int .i64 rs)) := Lib.hid (fun X hX => by
    have h := BX.out.below hX hlt
    exact ⟨h.cell 0, h.cell 1, h.cell 2, h.cell 3⟩)
  have L1 := Lib.hid (Below.refl w1.heap.size w1)
  obtain ⟨z0, z1, z2, z3⟩ := HB.out w1 L1.out
  go_wp2_with fail
  refine (HLi.out _ L1.out).mono ?_
  rintro e w2 ⟨rfl, hb⟩
  have L2 := Lib.hid (below_then L1.out L1.out.size hb)
  clear hb
  cases E1 with
  | false =>
    go_wp2_with fail
    refine (awake5 _).mono ?_
    rintro e wz ⟨rfl, hb⟩
    have KZ := Lib.hid (below_then L2.out L2.out.size hb)
    clear hb
    go_wp2
    go_ret
    exact ⟨rfl, below_then K1.out K1.out.size KZ.out⟩
  | true =>
  go_wp2_with fail
  refine (HLp.out _ L2.out).mono ?_
  rintro e w3 ⟨rfl, hb⟩
  have L3 := Lib.hid (below_then L2.out L2.out.size hb)
  clear hb
  cases E2
  · skip
    go_wp2_with fail
    refine (awake5 _).mono ?_
    rintro e wz ⟨rfl, hb⟩
    have KZ := Lib.hid (below_then L3.out L3.out.size hb)
    clear hb
    go_wp2
    go_ret
    exact ⟨rfl, below_then K1.out K1.out.size KZ.out⟩
  clear z0 z1 z2 z3
  obtain ⟨z0, z1, z2, z3⟩ := HB.out w3 L3.out
  go_wp2_with fail
  refine (HCk.out _ L3.out).mono ?_
  rintro e w4 ⟨rfl, hb⟩
  have L4 := Lib.hid (below_then L3.out L3.out.size hb)
  clear hb z0 z1 z2 z3
  by_cases he : E3 = 0
  rotate_left
  · have he' := bne_is he
    go_wp2_with fail
    refine (awake5 _).mono ?_
    rintro e wz ⟨rfl, hb⟩
    have KZ := Lib.hid (below_then L4.out L4.out.size hb)
    clear hb
    go_wp2
    go_ret
    exact ⟨rfl, below_then K1.out K1.out.size KZ.out⟩
  subst he
  have HW := Lib.hid (HWk.out (by trivial) (by trivial) (by trivial))
  have HT := Lib.hid (HTk.out (by trivial) (by trivial))
  have TO := Lib.hid (HTo.out (by trivial))
  clear HWk HTk HTo HLi HLp HCk
  obtain ⟨z0, z1, z2, z3⟩ := HB.out w4 L4.out
  go_wp2_with fail
  refine (HW.out _ L4.out).mono ?_
  rintro e w5 ⟨v5, rfl, ho, hb⟩
  have L5 := Lib.hid (below_then L4.out L4.out.size hb)
  obtain ⟨b5, c5, rfl, hb50, hb51, hcs⟩ := ints_read ho TO.out.some
  have HCs : Hid (∀ (X : World), Below w5.heap.size w5 X → ∀ (j k : Nat), (walkL l P.l)[j]? = some k → X.cell? ⟨b5, j, none⟩ = some (.int .i64 (k : Int))) := Lib.hid (fun X hX j k hk => (hX.cell (p := ⟨b5, j, none⟩) hb51).trans (hcs j k hk))
  clear hb ho hcs z0 z1 z2 z3 HW hlt BX
  obtain ⟨b, o, rfl, hbb, hcell⟩ := RT.out.2 TO.out.n0
  have HR0 : Hid (∀ (X : World), Below w1.heap.size w1 X → ∀ (k : Nat) (m : Ro), l[k]? = some m → X.cell? ⟨b, o + k * 8, none⟩ = some (.int .i64 m.par) ∧ X.cell? ⟨b, o + k * 8 + 1, none⟩ = some (.slice m.ms.A m.ms.l.length m.ms.c) ∧ X.cell? ⟨b, o + k * 8 + 2, none⟩ = some (.bool m.cont)) := Lib.hid (fun X hX k m hm => by
    obtain ⟨r0, r1, r2, _⟩ := ro_at hcell hm
    exact ⟨(hX.cell (p := ⟨b, _, none⟩) hbb).trans r0, (hX.cell (p := ⟨b, _, none⟩) hbb).trans r1, (hX.cell (p := ⟨b, _, none⟩) hbb).trans r2⟩)
  clear hbb hcell RT
  have M5 := Lib.hid (Below.refl w5.heap.size w5)
  have hws := TO.out.few
  have hln := TO.out.n1
  obtain ⟨ws, hws'⟩ : ∃ ws, walkL l P.l = ws := ⟨_, rfl⟩
  have HWS := Lib.hid hws'
  rw [hws'] at HCs hws
  rw [hws']
  clear hws'
  go_wp2
  go_loopw [6] (fun s wr => ∃ i : Nat, i ≤ ws.length ∧ s = .int .i64 (i : Int) ∧ Hid (Below w5.heap.size w5 wr)) (fun s _ => ws.length - (intOf s).toNat)
  case atStart => exact ⟨0, Nat.zero_le _, rfl, M5⟩
  case round =>
    obtain ⟨i, hi, rfl, N1⟩ := hrel
    by_cases hil : i < ws.length
    · have hi0 : (0 : Int) ≤ (i : Int) := by omega
      have hi1 : (i : Int) < (ws.length : Int) := by omega
      obtain ⟨x, hx⟩ : ∃ x, ws[i]? = some x := ⟨_, List.getElem?_eq_getElem hil⟩
      have HX := Lib.hid hx
      clear hx
      have HUP := Lib.hid (TO.out.up x (by rw [HWS.out]; exact List.mem_of_getElem? HX.out))
      have hxn := HUP.out.lt
      have y0 := HCs.out wr N1.out i x HX.out
      have hxn0 : (0 : Int) ≤ (x : Int) := by omega
      have HNE : Hid (∀ (q y : Nat), q < i → ws[q]? = some y → ((y : Int) == (x : Int)) = false ∧ ((x : Int) == (y : Int)) = false) := Lib.hid (fun q y hq hy => by
        have hn : ws.Nodup := by rw [← HWS.out]; exact TO.out.nodup
        have hne : y ≠ x := by
          intro e
          subst e
          have hq' := (List.getElem?_eq_some_iff.1 hy)
          have hi' := (List.getElem?_eq_some_iff.1 HX.out)
          have := (List.getElem_inj (h₀ := hq'.1) (h₁ := hi'.1) hn).1 (hq'.2.trans hi'.2.symm)
          omega
        exact ⟨beq_eq_false_iff_ne.2 (by omega), beq_eq_false_iff_ne.2 (by omega)⟩)
      by_cases hz : i = 0
      · subst hz
        rw [show ((0 : Nat) : Int) = 0 from rfl]
        have HS0 : Hid (wr.cell? ⟨b5, 0, none⟩ = some (.int .i64 (x : Int))) := Lib.hid y0
        go_upto_region 7 with fail
        refine wp_region_held_drew (S := (fun X => X.cell? ⟨b5, 0, none⟩ = some (.int .i64 (x : Int)))) (by kernel_rfl) (by exact HS0.out) (fun hHeld => ?_)
        refine wpAnyH_take (i := 0) (v := ?_) (by simp only [List.getElem?_toArray, List.getElem?_cons_succ, List.getElem?_cons_zero]; exact rfl) (by decide +kernel) (by decide +kernel) (by decide +kernel) (by exact fun _ _ _ h => h) (Or.inl ⟨by rfl, ?_⟩) (by assumption) ?_
        rotate_left
        · (intro w hSw; (try dsimp only at hSw); go_simp; try with_reducible rfl)
        try simp only [Act.put, List.setIfInBounds_toArray, List.set_cons_zero, List.set_cons_succ]
        refine wpAnyH_take (i := 1) (v := ?_) (by simp only [List.getElem?_toArray, List.getElem?_cons_succ, List.getElem?_cons_zero]; exact rfl) (by decide +kernel) (by decide +kernel) (by decide +kernel) (by exact fun _ _ _ h => h) (Or.inl ⟨by rfl, ?_⟩) (by assumption) ?_
        rotate_left
        · (intro w hSw; (try dsimp only at hSw); go_simp; try with_reducible rfl)
        try simp only [Act.put, List.setIfInBounds_toArray, List.set_cons_zero, List.set_cons_succ]
        refine wpAnyH_take (i := 2) (v := ?_) (by simp only [List.getElem?_toArray, List.getElem?_cons_succ, List.getElem?_cons_zero]; exact rfl) (by decide +kernel) (by decide +kernel) (by decide +kernel) (by exact fun _ _ _ h => h) (Or.inl ⟨by rfl, ?_⟩) (by assumption) ?_
        rotate_left
        · (intro w hSw; (try dsimp only at hSw); go_simp; try with_reducible rfl)
        try simp only [Act.put, List.setIfInBounds_toArray, List.set_cons_zero, List.set_cons_succ]
        refine wpAnyH_take (i := 3) (v := undef) (by simp only [List.getElem?_toArray, List.getElem?_cons_succ, List.getElem?_cons_zero]; exact rfl) (by decide +kernel) (by decide +kernel) (by decide +kernel) (by exact fun _ _ _ h => h) (Or.inr ⟨by rfl, rfl⟩) (by assumption) ?_
        try simp only [Act.put, List.setIfInBounds_toArray, List.set_cons_zero, List.set_cons_succ]
        refine wpAnyH_take (i := 4) (v := undef) (by simp only [List.getElem?_toArray, List.getElem?_cons_succ, List.getElem?_cons_zero]; exact rfl) (by decide +kernel) (by decide +kernel) (by decide +kernel) (by exact fun _ _ _ h => h) (Or.inr ⟨by rfl, rfl⟩) (by assumption) ?_
        try simp only [Act.put, List.setIfInBounds_toArray, List.set_cons_zero, List.set_cons_succ]
        refine wpAnyH_take (i := 5) (v := undef) (by simp only [List.getElem?_toArray, List.getElem?_cons_succ, List.getElem?_cons_zero]; exact rfl) (by decide +kernel) (by decide +kernel) (by decide +kernel) (by exact fun _ _ _ h => h) (Or.inr ⟨by rfl, rfl⟩) (by assumption) ?_
        try simp only [Act.put, List.setIfInBounds_toArray, List.set_cons_zero, List.set_cons_succ]
        refine wpAnyH_take (i := 6) (v := undef) (by simp only [List.getElem?_toArray, List.getElem?_cons_succ, List.getElem?_cons_zero]; exact rfl) (by decide +kernel) (by decide +kernel) (by decide +kernel) (by exact fun _ _ _ h => h) (Or.inr ⟨by rfl, rfl⟩) (by assumption) ?_
        try simp only [Act.put, List.setIfInBounds_toArray, List.set_cons_zero, List.set_cons_succ]
        refine wpAnyH_take (i := 7) (v := undef) (by simp only [List.getElem?_toArray, List.getElem?_cons_succ, List.getElem?_cons_zero]; exact rfl) (by decide +kernel) (by decide +kernel) (by decide +kernel) (by exact fun _ _ _ h => h) (Or.inr ⟨by rfl, rfl⟩) (by assumption) ?_
        try simp only [Act.put, List.setIfInBounds_toArray, List.set_cons_zero, List.set_cons_succ]
        refine wpAnyH_take (i := 8) (v := undef) (by simp only [List.getElem?_toArray, List.getElem?_cons_succ, List.getElem?_cons_zero]; exact rfl) (by decide +kernel) (by decide +kernel) (by decide +kernel) (by exact fun _ _ _ h => h) (Or.inr ⟨by rfl, rfl⟩) (by assumption) ?_
        try simp only [Act.put, List.setIfInBounds_toArray, List.set_cons_zero, List.set_cons_succ]
        refine wpAnyH_take (i := 9) (v := undef) (by simp only [List.getElem?_toArray, List.getElem?_cons_succ, List.getElem?_cons_zero]; exact rfl) (by decide +kernel) (by decide +kernel) (by decide +kernel) (by exact fun _ _ _ h => h) (Or.inr ⟨by rfl, rfl⟩) (by assumption) ?_
        try simp only [Act.put, List.setIfInBounds_toArray, List.set_cons_zero, List.set_cons_succ]
        refine wpAnyH_take (i := 10) (v := undef) (by simp only [List.getElem?_toArray, List.getElem?_cons_succ, List.getElem?_cons_zero]; exact rfl) (by decide +kernel) (by decide +kernel) (by decide +kernel) (by exact fun _ _ _ h => h) (Or.inr ⟨by rfl, rfl⟩) (by assumption) ?_
        try simp only [Act.put, List.setIfInBounds_toArray, List.set_cons_zero, List.set_cons_succ]
        refine wpAnyH_take (i := 11) (v := undef) (by simp only [List.getElem?_toArray, List.getElem?_cons_succ, List.getElem?_cons_zero]; exact rfl) (by decide +kernel) (by decide +kernel) (by decide +kernel) (by exact fun _ _ _ h => h) (Or.inr ⟨by rfl, rfl⟩) (by assumption) ?_
        try simp only [Act.put, List.setIfInBounds_toArray, List.set_cons_zero, List.set_cons_succ]
        refine wpAnyH_take (i := 12) (v := undef) (by simp only [List.getElem?_toArray, List.getElem?_cons_succ, List.getElem?_cons_zero]; exact rfl) (by decide +kernel) (by decide +kernel) (by decide +kernel) (by exact fun _ _ _ h => h) (Or.inr ⟨by rfl, rfl⟩) (by assumption) ?_
        try simp only [Act.put, List.setIfInBounds_toArray, List.set_cons_zero, List.set_cons_succ]
        refine wpAnyH_take (i := 13) (v := ?_) (by simp only [List.getElem?_toArray, List.getElem?_cons_succ, List.getElem?_cons_zero]; exact rfl) (by decide +kernel) (by decide +kernel) (by decide +kernel) (by exact fun _ _ _ h => h) (Or.inl ⟨by rfl, ?_⟩) (by assumption) ?_
        rotate_left
        · (intro w hSw; (try dsimp only at hSw); go_simp; try with_reducible rfl)
        try simp only [Act.put, List.setIfInBounds_toArray, List.set_cons_zero, List.set_cons_succ]
        refine wpAnyH_done (by kernel_rfl) ?_ _
        go_wp2
        go_loopw [7] (fun s wv => ∃ z : Int, s = .int .i64 z ∧ Hid (AtUp l P.l z) ∧ Hid (Below w5.heap.size w5 wv)) (fun s _ => (intOf s + 1).toNat)
        case atStart => exact ⟨(x : Int), rfl, Lib.hid (.inr ⟨x, rfl, HUP.out⟩), Lib.hid N1.out.drew⟩
        case round =>
          obtain ⟨z, rfl, HZ, N2⟩ := hrel
          rcases HZ.out with rfl | ⟨k, rfl, hu⟩
          · skip
            clear y0
            go_wp2
            go_loopw [8] (fun s wv => ∃ q : Nat, q ≤ 0 ∧ s = .int .i64 (q : Int) ∧ Hid (Below w5.heap.size w5 wv)) (fun s _ => 0 - (intOf s).toNat)
            case atStart => exact ⟨0, Nat.zero_le _, rfl, N2⟩
            case round =>
              obtain ⟨q, hq, rfl, N3⟩ := hrel
              by_cases hqi : q < 0
              · exact absurd hqi (Nat.not_lt_zero _)
              · obtain rfl : 0 = q := by omega
                have hq2 : decide (((0 : Nat) : Int) < ((0 : Nat) : Int)) = false := by simp
                go_wp2
                go_roundw
                case rel => exact ⟨0 + 1, by omega, by go_num, N3⟩
                case measure => (simp [intOf] <;> omega)
          · have hkn := hu.lt
            have HU := Lib.hid hu
            obtain ⟨m, hm⟩ : ∃ m, l[k]? = some m := ⟨_, List.getElem?_eq_getElem hkn⟩
            have HM := Lib.hid hm
            have hk0 : (0 : Int) ≤ (k : Int) := by omega
            have hk1 : (k : Int) < (l.length : Int) := by omega
            have hk2 : decide ((k : Int) ≥ 0) = true := by simp
            have hk3 : decide ((k : Int) ≥ (l.length : Int)) = false := by simp; omega
            have hk4 : decide (l.length ≤ k) = false := by simp; omega
            have N2' := Lib.hid (below_then L5.out L5.out.size N2.out)
            obtain ⟨z0, z1, z2, z3⟩ := HB.out _ N2'.out
            obtain ⟨_, r1, _⟩ := HR0.out _ N2'.out k m hm
            have HAl := Lib.hid (HT.out k m hm)
            rw [hu.is] at HAl
            clear hm hu y0 z1 z2 z3
            go_wp2_with fail
            refine (HAl.out _ N2'.out).mono ?_
            rintro e w8 ⟨rfl, hb⟩
            have N4 := Lib.hid (below_then N2.out N2.out.size hb)
            have N4' := Lib.hid (below_then L5.out L5.out.size N4.out)
            clear hb z0 r1
            obtain ⟨z0, z1, z2, z3⟩ := HB.out _ N4'.out
            obtain ⟨r0, _, _⟩ := HR0.out _ N4'.out k m HM.out
            clear z1 z2 z3
            go_wp2
            go_roundw
            case rel => exact ⟨m.par, rfl, Lib.hid (up_next HM.out HU.out), N4⟩
            case measure =>
              have := up_less TO.out.tree HM.out
              simp [intOf]
              omega
      · obtain ⟨i', hii⟩ : ∃ i', i = i' + 1 := ⟨i - 1, by omega⟩
        have HII := Lib.hid hii
        obtain ⟨y, hy⟩ : ∃ y, ws[i']? = some y := ⟨_, List.getElem?_eq_getElem (by omega)⟩
        have y1 := HCs.out wr N1.out i' y hy
        obtain ⟨ne1, ne2⟩ := HNE.out i' y (by omega) hy
        have HS0 : Hid (wr.cell? ⟨b5, i, none⟩ = some (.int .i64 (x : Int)) ∧ wr.cell? ⟨b5, i', none⟩ = some (.int .i64 (y : Int))) := Lib.hid ⟨y0, y1⟩
        have hg0 : (0 : Int) < (i : Int) := by omega
        have hg1 : decide ((i : Int) > 0) = true := by simp; omega
        have hg5 : decide (0 < i) = true := by simp; omega
        have hg2 : (0 : Int) ≤ (i' : Int) := by omega
        have hg3 : (i' : Int) < (ws.length : Int) := by omega
        have hg4 : IntKind.i64.wrap ((i : Int) - 1) = (i' : Int) := by rw [IntKind.wrap_i64]; omega
        clear hii
        clear hy
        go_upto_region 7 with fail
        refine wp_region_held_drew (S := (fun X => X.cell? ⟨b5, i, none⟩ = some (.int .i64 (x : Int)) ∧ X.cell? ⟨b5, i', none⟩ = some (.int .i64 (y : Int)))) (by kernel_rfl) (by exact HS0.out) (fun hHeld => ?_)
        refine wpAnyH_take (i := 0) (v := ?_) (by simp only [List.getElem?_toArray, List.getElem?_cons_succ, List.getElem?_cons_zero]; exact rfl) (by decide +kernel) (by decide +kernel) (by decide +kernel) (by exact fun _ _ _ h => h) (Or.inl ⟨by rfl, ?_⟩) (by assumption) ?_
        rotate_left
        · (intro w hSw; (try dsimp only at hSw); go_simp; try with_reducible rfl)
        try simp only [Act.put, List.setIfInBounds_toArray, List.set_cons_zero, List.set_cons_succ]
        refine wpAnyH_take (i := 1) (v := ?_) (by simp only [List.getElem?_toArray, List.getElem?_cons_succ, List.getElem?_cons_zero]; exact rfl) (by decide +kernel) (by decide +kernel) (by decide +kernel) (by exact fun _ _ _ h => h) (Or.inl ⟨by rfl, ?_⟩) (by assumption) ?_
        rotate_left
        · (intro w hSw; (try dsimp only at hSw); go_simp; try with_reducible rfl)
        try simp only [Act.put, List.setIfInBounds_toArray, List.set_cons_zero, List.set_cons_succ]
        refine wpAnyH_take (i := 2) (v := ?_) (by simp only [List.getElem?_toArray, List.getElem?_cons_succ, List.getElem?_cons_zero]; exact rfl) (by decide +kernel) (by decide +kernel) (by decide +kernel) (by exact fun _ _ _ h => h) (Or.inl ⟨by rfl, ?_⟩) (by assumption) ?_
        rotate_left
        · (intro w hSw; (try dsimp only at hSw); go_simp; try with_reducible rfl)
        try simp only [Act.put, List.setIfInBounds_toArray, List.set_cons_zero, List.set_cons_succ]
        refine wpAnyH_take (i := 3) (v := ?_) (by simp only [List.getElem?_toArray, List.getElem?_cons_succ, List.getElem?_cons_zero]; exact rfl) (by decide +kernel) (by decide +kernel) (by decide +kernel) (by exact fun _ _ _ h => h) (Or.inl ⟨by rfl, ?_⟩) (by assumption) ?_
        rotate_left
        · (intro w hSw; (try dsimp only at hSw); go_simp; try with_reducible rfl)
        try simp only [Act.put, List.setIfInBounds_toArray, List.set_cons_zero, List.set_cons_succ]
        refine wpAnyH_take (i := 4) (v := ?_) (by simp only [List.getElem?_toArray, List.getElem?_cons_succ, List.getElem?_cons_zero]; exact rfl) (by decide +kernel) (by decide +kernel) (by decide +kernel) (by exact fun _ _ _ h => h) (Or.inl ⟨by rfl, ?_⟩) (by assumption) ?_
        rotate_left
        · (intro w hSw; (try dsimp only at hSw); go_simp; try with_reducible rfl)
        try simp only [Act.put, List.setIfInBounds_toArray, List.set_cons_zero, List.set_cons_succ]
        refine wpAnyH_take (i := 5) (v := ?_) (by simp only [List.getElem?_toArray, List.getElem?_cons_succ, List.getElem?_cons_zero]; exact rfl) (by decide +kernel) (by decide +kernel) (by decide +kernel) (by exact fun _ _ _ h => h) (Or.inl ⟨by rfl, ?_⟩) (by assumption) ?_
        rotate_left
        · (intro w hSw; (try dsimp only at hSw); go_simp; try with_reducible rfl)
        try simp only [Act.put, List.setIfInBounds_toArray, List.set_cons_zero, List.set_cons_succ]
        refine wpAnyH_take (i := 6) (v := ?_) (by simp only [List.getElem?_toArray, List.getElem?_cons_succ, List.getElem?_cons_zero]; exact rfl) (by decide +kernel) (by decide +kernel) (by decide +kernel) (by exact fun _ _ _ h => h) (Or.inl ⟨by rfl, ?_⟩) (by assumption) ?_
        rotate_left
        · (intro w hSw; (try dsimp only at hSw); go_simp; try with_reducible rfl)
        try simp only [Act.put, List.setIfInBounds_toArray, List.set_cons_zero, List.set_cons_succ]
        refine wpAnyH_take (i := 7) (v := ?_) (by simp only [List.getElem?_toArray, List.getElem?_cons_succ, List.getElem?_cons_zero]; exact rfl) (by decide +kernel) (by decide +kernel) (by decide +kernel) (by exact fun _ _ _ h => h) (Or.inl ⟨by rfl, ?_⟩) (by assumption) ?_
        rotate_left
        · (intro w hSw; (try dsimp only at hSw); go_simp; try with_reducible rfl)
        try simp only [Act.put, List.setIfInBounds_toArray, List.set_cons_zero, List.set_cons_succ]
        refine wpAnyH_take (i := 8) (v := ?_) (by simp only [List.getElem?_toArray, List.getElem?_cons_succ, List.getElem?_cons_zero]; exact rfl) (by decide +kernel) (by decide +kernel) (by decide +kernel) (by exact fun _ _ _ h => h) (Or.inl ⟨by rfl, ?_⟩) (by assumption) ?_
        rotate_left
        · (intro w hSw; (try dsimp only at hSw); go_simp; try with_reducible rfl)
        try simp only [Act.put, List.setIfInBounds_toArray, List.set_cons_zero, List.set_cons_succ]
        refine wpAnyH_take (i := 9) (v := ?_) (by simp only [List.getElem?_toArray, List.getElem?_cons_succ, List.getElem?_cons_zero]; exact rfl) (by decide +kernel) (by decide +kernel) (by decide +kernel) (by exact fun _ _ _ h => h) (Or.inl ⟨by rfl, ?_⟩) (by assumption) ?_
        rotate_left
        · (intro w hSw; (try dsimp only at hSw); go_simp; try with_reducible rfl)
        try simp only [Act.put, List.setIfInBounds_toArray, List.set_cons_zero, List.set_cons_succ]
        refine wpAnyH_take (i := 10) (v := ?_) (by simp only [List.getElem?_toArray, List.getElem?_cons_succ, List.getElem?_cons_zero]; exact rfl) (by decide +kernel) (by decide +kernel) (by decide +kernel) (by exact fun _ _ _ h => h) (Or.inl ⟨by rfl, ?_⟩) (by assumption) ?_
        rotate_left
        · (intro w hSw; (try dsimp only at hSw); go_simp; try with_reducible rfl)
        try simp only [Act.put, List.setIfInBounds_toArray, List.set_cons_zero, List.set_cons_succ]
        refine wpAnyH_take (i := 11) (v := ?_) (by simp only [List.getElem?_toArray, List.getElem?_cons_succ, List.getElem?_cons_zero]; exact rfl) (by decide +kernel) (by decide +kernel) (by decide +kernel) (by exact fun _ _ _ h => h) (Or.inl ⟨by rfl, ?_⟩) (by assumption) ?_
        rotate_left
        · (intro w hSw; (try dsimp only at hSw); go_simp; try with_reducible rfl)
        try simp only [Act.put, List.setIfInBounds_toArray, List.set_cons_zero, List.set_cons_succ]
        refine wpAnyH_take (i := 12) (v := ?_) (by simp only [List.getElem?_toArray, List.getElem?_cons_succ, List.getElem?_cons_zero]; exact rfl) (by decide +kernel) (by decide +kernel) (by decide +kernel) (by exact fun _ _ _ h => h) (Or.inl ⟨by rfl, ?_⟩) (by assumption) ?_
        rotate_left
        · (intro w hSw; (try dsimp only at hSw); go_simp; try with_reducible rfl)
        try simp only [Act.put, List.setIfInBounds_toArray, List.set_cons_zero, List.set_cons_succ]
        refine wpAnyH_take (i := 13) (v := ?_) (by simp only [List.getElem?_toArray, List.getElem?_cons_succ, List.getElem?_cons_zero]; exact rfl) (by decide +kernel) (by decide +kernel) (by decide +kernel) (by exact fun _ _ _ h => h) (Or.inl ⟨by rfl, ?_⟩) (by assumption) ?_
        rotate_left
        · (intro w hSw; (try dsimp only at hSw); go_simp; try with_reducible rfl)
        try simp only [Act.put, List.setIfInBounds_toArray, List.set_cons_zero, List.set_cons_succ]
        refine wpAnyH_done (by kernel_rfl) ?_ _
        go_wp2
        go_loopw [7] (fun s wv => ∃ z : Int, s = .int .i64 z ∧ Hid (AtUp l P.l z) ∧ Hid (Below w5.heap.size w5 wv)) (fun s _ => (intOf s + 1).toNat)
        case atStart => exact ⟨(x : Int), rfl, Lib.hid (.inr ⟨x, rfl, HUP.out⟩), Lib.hid N1.out.drew⟩
        case round =>
          obtain ⟨z, rfl, HZ, N2⟩ := hrel
          rcases HZ.out with rfl | ⟨k, rfl, hu⟩
          · skip
            clear y0
            go_wp2
            go_loopw [8] (fun s wv => ∃ q : Nat, q ≤ i ∧ s = .int .i64 (q : Int) ∧ Hid (Below w5.heap.size w5 wv)) (fun s _ => i - (intOf s).toNat)
            case atStart => exact ⟨0, Nat.zero_le _, rfl, N2⟩
            case round =>
              obtain ⟨q, hq, rfl, N3⟩ := hrel
              by_cases hqi : q < i
              · obtain ⟨y, hy⟩ : ∃ y, ws[q]? = some y := ⟨_, List.getElem?_eq_getElem (by omega)⟩
                have t0 := HCs.out wr N3.out i x HX.out
                have t1 := HCs.out wr N3.out q y hy
                obtain ⟨nq1, nq2⟩ := HNE.out q y hqi hy
                have hq0 : (0 : Int) ≤ (q : Int) := by omega
                have hq1 : (q : Int) < (ws.length : Int) := by omega
                have hq2 : decide ((q : Int) < ((i : Nat) : Int)) = true := by simp; omega
                have hq4 : decide (q < i) = true := by simp; omega
                have hq3 : (q : Int) < ((i : Nat) : Int) := by omega
                have HS1 : Hid (wr.cell? ⟨b5, i, none⟩ = some (.int .i64 (x : Int)) ∧ wr.cell? ⟨b5, q, none⟩ = some (.int .i64 (y : Int))) := Lib.hid ⟨t0, t1⟩
                clear hy
                go_upto_region 17 with fail
                refine wp_region_held_drew (S := (fun X => X.cell? ⟨b5, i, none⟩ = some (.int .i64 (x : Int)) ∧ X.cell? ⟨b5, q, none⟩ = some (.int .i64 (y : Int)))) (by kernel_rfl) (by exact HS1.out) (fun hHeld => ?_)
                refine wpAnyH_take (i := 0) (v := ?_) (by simp only [List.getElem?_toArray, List.getElem?_cons_succ, List.getElem?_cons_zero]; exact rfl) (by decide +kernel) (by decide +kernel) (by decide +kernel) (by exact fun _ _ _ h => h) (Or.inl ⟨by rfl, ?_⟩) (by assumption) ?_
                rotate_left
                · (intro w hSw; (try dsimp only at hSw); go_simp; try with_reducible rfl)
                try simp only [Act.put, List.setIfInBounds_toArray, List.set_cons_zero, List.set_cons_succ]
                refine wpAnyH_take (i := 1) (v := ?_) (by simp only [List.getElem?_toArray, List.getElem?_cons_succ, List.getElem?_cons_zero]; exact rfl) (by decide +kernel) (by decide +kernel) (by decide +kernel) (by exact fun _ _ _ h => h) (Or.inl ⟨by rfl, ?_⟩) (by assumption) ?_
                rotate_left
                · (intro w hSw; (try dsimp only at hSw); go_simp; try with_reducible rfl)
                try simp only [Act.put, List.setIfInBounds_toArray, List.set_cons_zero, List.set_cons_succ]
                refine wpAnyH_take (i := 2) (v := ?_) (by simp only [List.getElem?_toArray, List.getElem?_cons_succ, List.getElem?_cons_zero]; exact rfl) (by decide +kernel) (by decide +kernel) (by decide +kernel) (by exact fun _ _ _ h => h) (Or.inl ⟨by rfl, ?_⟩) (by assumption) ?_
                rotate_left
                · (intro w hSw; (try dsimp only at hSw); go_simp; try with_reducible rfl)
                try simp only [Act.put, List.setIfInBounds_toArray, List.set_cons_zero, List.set_cons_succ]
                refine wpAnyH_take (i := 3) (v := ?_) (by simp only [List.getElem?_toArray, List.getElem?_cons_succ, List.getElem?_cons_zero]; exact rfl) (by decide +kernel) (by decide +kernel) (by decide +kernel) (by exact fun _ _ _ h => h) (Or.inl ⟨by rfl, ?_⟩) (by assumption) ?_
                rotate_left
                · (intro w hSw; (try dsimp only at hSw); go_simp; try with_reducible rfl)
                try simp only [Act.put, List.setIfInBounds_toArray, List.set_cons_zero, List.set_cons_succ]
                refine wpAnyH_take (i := 4) (v := ?_) (by simp only [List.getElem?_toArray, List.getElem?_cons_succ, List.getElem?_cons_zero]; exact rfl) (by decide +kernel) (by decide +kernel) (by decide +kernel) (by exact fun _ _ _ h => h) (Or.inl ⟨by rfl, ?_⟩) (by assumption) ?_
                rotate_left
                · (intro w hSw; (try dsimp only at hSw); go_simp; try with_reducible rfl)
                try simp only [Act.put, List.setIfInBounds_toArray, List.set_cons_zero, List.set_cons_succ]
                refine wpAnyH_take (i := 5) (v := ?_) (by simp only [List.getElem?_toArray, List.getElem?_cons_succ, List.getElem?_cons_zero]; exact rfl) (by decide +kernel) (by decide +kernel) (by decide +kernel) (by exact fun _ _ _ h => h) (Or.inl ⟨by rfl, ?_⟩) (by assumption) ?_
                rotate_left
                · (intro w hSw; (try dsimp only at hSw); go_simp; try with_reducible rfl)
                try simp only [Act.put, List.setIfInBounds_toArray, List.set_cons_zero, List.set_cons_succ]
                refine wpAnyH_take (i := 6) (v := ?_) (by simp only [List.getElem?_toArray, List.getElem?_cons_succ, List.getElem?_cons_zero]; exact rfl) (by decide +kernel) (by decide +kernel) (by decide +kernel) (by exact fun _ _ _ h => h) (Or.inl ⟨by rfl, ?_⟩) (by assumption) ?_
                rotate_left
                · (intro w hSw; (try dsimp only at hSw); go_simp; try with_reducible rfl)
                try simp only [Act.put, List.setIfInBounds_toArray, List.set_cons_zero, List.set_cons_succ]
                refine wpAnyH_take (i := 7) (v := ?_) (by simp only [List.getElem?_toArray, List.getElem?_cons_succ, List.getElem?_cons_zero]; exact rfl) (by decide +kernel) (by decide +kernel) (by decide +kernel) (by exact fun _ _ _ h => h) (Or.inl ⟨by rfl, ?_⟩) (by assumption) ?_
                rotate_left
                · (intro w hSw; (try dsimp only at hSw); go_simp; try with_reducible rfl)
                try simp only [Act.put, List.setIfInBounds_toArray, List.set_cons_zero, List.set_cons_succ]
                refine wpAnyH_take (i := 8) (v := ?_) (by simp only [List.getElem?_toArray, List.getElem?_cons_succ, List.getElem?_cons_zero]; exact rfl) (by decide +kernel) (by decide +kernel) (by decide +kernel) (by exact fun _ _ _ h => h) (Or.inl ⟨by rfl, ?_⟩) (by assumption) ?_
                rotate_left
                · (intro w hSw; (try dsimp only at hSw); go_simp; try with_reducible rfl)
                try simp only [Act.put, List.setIfInBounds_toArray, List.set_cons_zero, List.set_cons_succ]
                refine wpAnyH_done (by kernel_rfl) ?_ _
                go_wp2
                go_roundw
                case rel => exact ⟨q + 1, by omega, by go_num, Lib.hid N3.out.drew⟩
                case measure => (simp [intOf] <;> omega)
              · obtain rfl : i = q := by omega
                have hq2 : decide (((i : Nat) : Int) < ((i : Nat) : Int)) = false := by simp
                go_wp2
                go_roundw
                case rel => exact ⟨i + 1, by omega, by go_num, N3⟩
                case measure => (simp [intOf] <;> omega)
          · have hkn := hu.lt
            have HU := Lib.hid hu
            obtain ⟨m, hm⟩ : ∃ m, l[k]? = some m := ⟨_, List.getElem?_eq_getElem hkn⟩
            have HM := Lib.hid hm
            have hk0 : (0 : Int) ≤ (k : Int) := by omega
            have hk1 : (k : Int) < (l.length : Int) := by omega
            have hk2 : decide ((k : Int) ≥ 0) = true := by simp
            have hk3 : decide ((k : Int) ≥ (l.length : Int)) = false := by simp; omega
            have hk4 : decide (l.length ≤ k) = false := by simp; omega
            have N2' := Lib.hid (below_then L5.out L5.out.size N2.out)
            obtain ⟨z0, z1, z2, z3⟩ := HB.out _ N2'.out
            obtain ⟨_, r1, _⟩ := HR0.out _ N2'.out k m hm
            have HAl := Lib.hid (HT.out k m hm)
            rw [hu.is] at HAl
            clear hm hu y0 z1 z2 z3
            go_wp2_with fail
            refine (HAl.out _ N2'.out).mono ?_
            rintro e w8 ⟨rfl, hb⟩
            have N4 := Lib.hid (below_then N2.out N2.out.size hb)
            have N4' := Lib.hid (below_then L5.out L5.out.size N4.out)
            clear hb z0 r1
            obtain ⟨z0, z1, z2, z3⟩ := HB.out _ N4'.out
            obtain ⟨r0, _, _⟩ := HR0.out _ N4'.out k m HM.out
            clear z1 z2 z3
            go_wp2
            go_roundw
            case rel => exact ⟨m.par, rfl, Lib.hid (up_next HM.out HU.out), N4⟩
            case measure =>
              have := up_less TO.out.tree HM.out
              simp [intOf]
              omega
    · obtain rfl : i = ws.length := by omega
      have hpos : decide ((ws.length : Int) > 0) = true := by
        have := TO.out.some
        rw [HWS.out] at this
        simp
        omega
      have hpos2 : decide (0 < ws.length) = true := by
        have := TO.out.some
        rw [HWS.out] at this
        simpa using this
      go_wp2_with fail
      refine (awake5 _).mono ?_
      rintro e wz ⟨rfl, hb⟩
      have KZ := Lib.hid (below_then N1.out N1.out.size hb)
      clear hb
      go_wp2
      go_ret
      exact ⟨rfl, below_then K1.out K1.out.size (below_then L5.out L5.out.size KZ.out)⟩
set_option maxRecDepth 100000 in
theorem routeSomewhere_lifted (os : Os) (started : os.Started) (H : Type) (enc : TypeId × Value → H) :
    ReturnsInHanded {} Try.checked os 19 .any (Rows.routeSomewhereSpec.pre6 enc Try.prog Try.f19 Rows.routeSomewhereRow.domain false) (Rows.routeSomewhereSpec.post enc Try.prog Try.f19 false true false false) := by
  refine returnsInHanded_of_change (C := Try.checked) tOwn started (by kernel_rfl) Try.func19
    (ChangeSpec.witness6 (enc := enc) (C := Try.checked) false ⟨#[], #[.agg #[.slice none 0 0, .slice none 0 0, .int .i64 0, .int .i64 0], .slice none 0 0], []⟩ 8 (by kernel_rfl) (by kernel_rfl) (by kernel_rfl) (by kernel_rfl)) ?_
  intro W base args ds gs before hval0 hW hcnd _
  have hval : ∀ (j : Nat) t v, Try.f19.params[j]? = some t → args[j]? = some v → Value.okWide Try.prog W .any base t v := hval0
  have hW' := hW
  obtain ⟨p, q, hA0, hV, rfl, hfz, hnd⟩ := hW
  have hA : DataW.TrodAll enc Try.prog W 0 (fun _ => true) true Try.f19.params.toList args.toList ds p := hA0
  rw [Try.params19] at hA hval
  obtain ⟨v0, vs0, d0, ds0, p0, q0, hargs, rfl, rfl, h0, r0⟩ := trodAll_cons hA
  obtain ⟨v1, vs1, d1, ds1, p1, q1, rfl, rfl, rfl, h1, r1⟩ := trodAll_cons r0
  obtain ⟨rfl, rfl, rfl⟩ := trodAll_nil r1
  obtain rfl : args = #[v0, v1] := by cases args; simp_all
  obtain ⟨c, rfl, ic⟩ := open_cf (hval 0 70 v0 rfl rfl) h0
  obtain ⟨p, rfl, ip⟩ := open_pr (hval 1 38 v1 rfl rfl) h1
  refine (some_law c p W ic ip).mono fun e W' ⟨he, hb⟩ => ?_
  subst he
  exact ⟨_, rfl, law_post tLaid (by decide +kernel) hW' rfl (by kernel_rfl) Try.underlying4 rfl hb⟩

/-- The closed facts of the row. -/
theorem routeSomewhere_facts : joinedFacts Try.pinned.checked.prog 19 Try.f19 Rows.routeSomewhereSpec Rows.routeSomewhereRow = true := joined_at 19 Try.f19 Rows.routeSomewhereSpec Rows.routeSomewhereRow (by
  intro P hP h1 h2 h3
  unfold joinedFacts
  rw [h1, h2, h3]
  subst hP
  kernel_rfl)
/-- The statement. -/
theorem routeSomewhere_holds : Rows.RouteSomewhereSaid :=
  OpenClaim.holds_of_wide 19 Try.f19 rfl rfl rfl rfl rfl rfl rfl ⟨rfl, rfl, rfl, rfl, rfl⟩ rfl rfl rfl rfl rfl (by kernel_rfl) Try.func19 routeSomewhere_facts
    (of_decide_eq_true (by kernel_rfl)) (by unfold Func.isWrapper; rw [if_neg (of_decide_eq_false (by kernel_rfl))]; exact ⟨rfl, rfl⟩)
    (fun os started H enc _ => routeSomewhere_lifted os started H enc)
#print axioms routeSomewhere_holds
end Go.Proofs.Ytnidjfmbbfoheaa
